/- The reference's reading of a head. -/
import Derived.Test.YtaphnkgjcmneoaaGreatDoorCiz
import Derived.Test.YtaphnkgjcmneoaaGreatDoorCio
import Derived.Test.YtaphnkgjcmneoaaGreatDoorNmi
namespace Go.Proofs.YtaphnkgjcmneoaaGreatDoor
open Go.RowKit

theorem cut_len (L : List UInt8) (b : UInt8) : (Lib.cut L [b]).1.length ≤ L.length ∧ (Lib.cut L [b]).2.1.length ≤ L.length := by
  unfold Lib.cut
  split
  · refine ⟨by simp [List.length_take]; omega, by simp [List.length_drop]⟩
  · exact ⟨Nat.le_refl _, Nat.zero_le _⟩
def HdPost (L : List UInt8) (w : World) : Ending → World → Prop := fun e w' => ∃ dP dM, e = .returned (.tuple #[.agg #[.int .i64 (hdS L).1, .int .i64 (hdS L).2.1, .slice (some dP) 0 0, .slice (some dM) 0 0, .int .i64 (hdS L).2.2], .bool (hdSok L)]) ∧ Own w' w.heap.size [intRowOf 3 (.slice (some dP) 0 0) [], intRowOf 3 (.slice (some dM) 0 0) []] ∧ Ext w w'
theorem hd_vals {L : List UInt8} {q z h : Int} {o1 o2 t : Bool} (hq : q = polOf (Lib.cut L [47]).1) (hz : z = rs0 (Lib.cut (Lib.cut L [47]).2.1 [64]).1) (hh : h = rs0 (Lib.cut (Lib.cut L [47]).2.1 [64]).2.1) (ht : t = (Lib.cut (Lib.cut L [47]).2.1 [64]).2.2) (h1 : o1 = (rsO (Lib.cut (Lib.cut L [47]).2.1 [64]).1).isSome) (h2 : o2 = (rsO (Lib.cut (Lib.cut L [47]).2.1 [64]).2.1).isSome) :
    hdS L = (q, z, if t then h else 0) ∧ hdSok L = ((o1 && (if t then o2 else true)) && (t == (q == 6))) := by
  subst hq hz hh ht h1 h2
  exact ⟨rfl, rfl⟩
set_option maxHeartbeats 3200000 in
theorem l4Head_any {L : List UInt8} {w : World} (hl : L.length ≤ 100000) : Calls Tryz.prog 47 #[.string (bsOf L)] w (HdPost L w) := by
  unfold HdPost
  have hC1 := fun (u : World) => l4Cut_any (L := L) 47 (w := u) hl
  have hl1 := cut_len L 47
  obtain ⟨LA, hLA⟩ : ∃ X, X = (Lib.cut L [47]).1 := ⟨_, rfl⟩
  obtain ⟨LR, hLR⟩ : ∃ X, X = (Lib.cut L [47]).2.1 := ⟨_, rfl⟩
  have hl2 := cut_len LR 64
  obtain ⟨LZ, hLZ⟩ : ∃ X, X = (Lib.cut LR [64]).1 := ⟨_, rfl⟩
  obtain ⟨LH, hLH⟩ : ∃ X, X = (Lib.cut LR [64]).2.1 := ⟨_, rfl⟩
  obtain ⟨t, ht⟩ : ∃ X, X = (Lib.cut LR [64]).2.2 := ⟨_, rfl⟩
  obtain ⟨q, hq⟩ : ∃ X, X = polOf LA := ⟨_, rfl⟩
  obtain ⟨z, hz⟩ : ∃ X, X = rs0 LZ := ⟨_, rfl⟩
  obtain ⟨h, hh⟩ : ∃ X, X = rs0 LH := ⟨_, rfl⟩
  obtain ⟨o1, h1⟩ : ∃ X, X = (rsO LZ).isSome := ⟨_, rfl⟩
  obtain ⟨o2, h2⟩ : ∃ X, X = (rsO LH).isSome := ⟨_, rfl⟩
  rw [← hLA, ← hLR] at hl1
  rw [← hLZ, ← hLH] at hl2
  have hC2 := fun (u : World) => l4Cut_any (L := LR) 64 (w := u) (by omega)
  have hPo := fun (u : World) => l4Policy_any LA u
  have hR1 := fun (u : World) => l1Read_any (L := LZ) (w := u) (by omega)
  have hR2 := fun (u : World) => l1Read_any (L := LH) (w := u) (by omega)
  unfold cutV at hC1 hC2
  rw [show (((47 : UInt8).toNat : Nat) : Int) = 47 from rfl] at hC1
  rw [show (((64 : UInt8).toNat : Nat) : Int) = 64 from rfl] at hC2
  rw [show optV (rsO LZ) = .tuple #[.int .i64 z, .bool o1] by rw [hz, h1]; rfl] at hR1
  rw [show optV (rsO LH) = .tuple #[.int .i64 h, .bool o2] by rw [hh, h2]; rfl] at hR2
  rw [← hLA, ← hLR] at hC1
  rw [← hLZ, ← hLH, ← ht] at hC2
  rw [← hq] at hPo
  have hV : hdS L = (q, z, if t then h else 0) ∧ hdSok L = ((o1 && (if t then o2 else true)) && (t == (q == 6))) := by
    refine hd_vals (o1 := o1) (o2 := o2) ?_ ?_ ?_ ?_ ?_ ?_
    · rw [hq, hLA]
    · rw [hz, hLZ, hLR]
    · rw [hh, hLH, hLR]
    · rw [ht, hLR]
    · rw [h1, hLZ, hLR]
    · rw [h2, hLH, hLR]
  rw [hV.1, hV.2]
  clear hV
  obtain ⟨SL, hSL⟩ : ∃ S, S = bsOf L := ⟨_, rfl⟩
  obtain ⟨SA, hSA⟩ : ∃ S, S = bsOf LA := ⟨_, rfl⟩
  obtain ⟨SR, hSR⟩ : ∃ S, S = bsOf LR := ⟨_, rfl⟩
  obtain ⟨SZ, hSZ⟩ : ∃ S, S = bsOf LZ := ⟨_, rfl⟩
  obtain ⟨SH, hSH⟩ : ∃ S, S = bsOf LH := ⟨_, rfl⟩
  obtain ⟨t0, ht0⟩ : ∃ t0, t0 = (Lib.cut L [47]).2.2 := ⟨_, rfl⟩
  rw [← hSL, ← hSA, ← hSR, ← ht0] at hC1
  rw [← hSA] at hPo
  rw [← hSR, ← hSZ, ← hSH] at hC2
  rw [← hSZ] at hR1
  rw [← hSH] at hR2
  rw [← hSL]
  clear ht0 hSL hSA hSR hSZ hSH h1 h2 hz hh hq ht hLZ hLH hLA hLR hl1 hl2
  replace hC1 := hid hC1
  replace hC2 := hid hC2
  replace hPo := hid hPo
  replace hR1 := hid hR1
  replace hR2 := hid hR2
  have hN := hid (fun (u : World) => l4New_any q 0 u)
  obtain ⟨W, hW⟩ : ∃ W, W = w.alloc (.cells #[.int .i64 0, .int .i64 0, .slice none 0 0, .slice none 0 0, .int .i64 0] 26) := ⟨_, rfl⟩
  have eW : Ext w W := by rw [hW]; infer_instance
  have z0 : W.cell? ⟨w.heap.size, 0, none⟩ = some (.int .i64 0) := by rw [hW]; go_simp
  have z1 : W.cell? ⟨w.heap.size, 1, none⟩ = some (.int .i64 0) := by rw [hW]; go_simp
  have z2 : W.cell? ⟨w.heap.size, 2, none⟩ = some (.slice none 0 0) := by rw [hW]; go_simp
  have z3 : W.cell? ⟨w.heap.size, 3, none⟩ = some (.slice none 0 0) := by rw [hW]; go_simp
  have z4 : W.cell? ⟨w.heap.size, 4, none⟩ = some (.int .i64 0) := by rw [hW]; go_simp
  have f0 : W.frozen? ⟨w.heap.size, 0, none⟩ = false := by rw [hW]; go_simp
  have f1 : W.frozen? ⟨w.heap.size, 1, none⟩ = false := by rw [hW]; go_simp
  have f2 : W.frozen? ⟨w.heap.size, 2, none⟩ = false := by rw [hW]; go_simp
  have f3 : W.frozen? ⟨w.heap.size, 3, none⟩ = false := by rw [hW]; go_simp
  have f4 : W.frozen? ⟨w.heap.size, 4, none⟩ = false := by rw [hW]; go_simp
  have hWs := hid (show W.heap.size = w.heap.size + 1 by rw [hW]; go_simp)
  go_enter Tryz.func47, Tryz.ntmps47
  go_upto_region 1 with fail
  rw [← hW]
  replace hW := hid hW
  go_wp2_with fail
  with_reducible refine (hC1.out _).mono ?_
  rintro e w1 ⟨rfl, e1⟩
  go_wp2_with fail
  with_reducible refine (hPo.out _).mono ?_
  rintro e w2 ⟨rfl, e2⟩
  go_wp2_with fail
  refine (hN.out _).mono ?_
  rintro e w3 ⟨dP, dM, rfl, o3, e3⟩
  have e13 : Ext W w3 := Ext.trans e1 (Ext.trans e2 e3)
  have b2 : w.heap.size < w2.heap.size := by have := (Ext.trans e1 e2 : Ext W w2).below.size; rw [hWs.out] at this; omega
  have b3 : w2.heap.size ≤ w3.heap.size := e3.below.size
  replace o3 := hid o3
  obtain ⟨V, hV⟩ : ∃ V, V = w3.alloc (.cells #[.int .i64 q, .int .i64 0, .slice (some dP) 0 0, .slice (some dM) 0 0, .int .i64 0] 26) := ⟨_, rfl⟩
  have eV : Ext w3 V := by rw [hV]; infer_instance
  have v0 : V.cell? ⟨w3.heap.size, 0, none⟩ = some (.int .i64 q) := by rw [hV]; go_simp
  have v1 : V.cell? ⟨w3.heap.size, 1, none⟩ = some (.int .i64 0) := by rw [hV]; go_simp
  have v2 : V.cell? ⟨w3.heap.size, 2, none⟩ = some (.slice (some dP) 0 0) := by rw [hV]; go_simp
  have v3 : V.cell? ⟨w3.heap.size, 3, none⟩ = some (.slice (some dM) 0 0) := by rw [hV]; go_simp
  have v4 : V.cell? ⟨w3.heap.size, 4, none⟩ = some (.int .i64 0) := by rw [hV]; go_simp
  have p0 : V.frozen? ⟨w3.heap.size, 0, none⟩ = false := by rw [hV]; go_simp
  have p1 : V.frozen? ⟨w3.heap.size, 1, none⟩ = false := by rw [hV]; go_simp
  have p4 : V.frozen? ⟨w3.heap.size, 4, none⟩ = false := by rw [hV]; go_simp
  go_upto_region 3 with fail
  rw [← hV]
  replace hV := hid hV
  go_wp2_with fail
  with_reducible refine (hC2.out _).mono ?_
  rintro e w4 ⟨rfl, e4⟩
  go_wp2_with fail
  with_reducible refine (hR1.out _).mono ?_
  rintro e w5 ⟨rfl, e5⟩
  have e45 : Ext V w5 := Ext.trans e4 e5
  obtain ⟨c, hc⟩ : ∃ c, c = w3.heap.size := ⟨_, rfl⟩
  obtain ⟨U, hU⟩ : ∃ U, U = w5.setCell ⟨w3.heap.size, 1, none⟩ (.int .i64 z) := ⟨_, rfl⟩
  have e3U : Ext w3 U := by
    rw [hU]
    exact @Ext.set _ _ (Ext.trans eV e45) ⟨w3.heap.size, 1, none⟩ (Nat.le_refl _) _
  rw [← hc] at v0 v1 v2 v3 v4 p0 p1 p4 hU ⊢
  replace hc := hid hc
  have q1 := e45.frozen v1 p1
  have u0 : U.cell? ⟨c, 0, none⟩ = some (.int .i64 q) := by rw [hU]; have := e45.cell v0; go_simp
  have u1 : U.cell? ⟨c, 1, none⟩ = some (.int .i64 z) := by rw [hU]; have := e45.cell v1; go_simp
  have u2 : U.cell? ⟨c, 2, none⟩ = some (.slice (some dP) 0 0) := by rw [hU]; have := e45.cell v2; go_simp
  have u3 : U.cell? ⟨c, 3, none⟩ = some (.slice (some dM) 0 0) := by rw [hU]; have := e45.cell v3; go_simp
  have u4 : U.cell? ⟨c, 4, none⟩ = some (.int .i64 0) := by rw [hU]; have := e45.cell v4; go_simp
  have g4 : U.frozen? ⟨c, 4, none⟩ = false := by rw [hU]; have := e45.frozen v4 p4; go_simp
  replace v1 := e45.cell v1
  go_upto_region 6 with fail
  rw [← hU]
  replace hU := hid hU
  have hne : w.heap.size < c := by rw [hc.out]; omega
  have eWU : Ext W U := Ext.trans e13 e3U
  have ewU : Ext w U := Ext.trans eW eWU
  have f0 := eWU.frozen z0 f0
  have f1 := eWU.frozen z1 f1
  have f2 := eWU.frozen z2 f2
  have f3 := eWU.frozen z3 f3
  have f4 := eWU.frozen z4 f4
  have z0 := eWU.cell z0
  have z1 := eWU.cell z1
  have z2 := eWU.cell z2
  have z3 := eWU.cell z3
  have z4 := eWU.cell z4
  clear v0 v1 v2 v3 v4 p0 p1 p4 q1 hC1 hC2 hPo hR1 hN
  cases t with
  | false =>
    cases o1 with
    | false =>
      have hSx := hid (show ∀ u, Ext U u → (u.cell? ⟨c, 0, none⟩ = some (.int .i64 q) ∧ u.cell? ⟨c, 1, none⟩ = some (.int .i64 z) ∧ u.cell? ⟨c, 2, none⟩ = some (.slice (some dP) 0 0) ∧ u.cell? ⟨c, 3, none⟩ = some (.slice (some dM) 0 0) ∧ u.cell? ⟨c, 4, none⟩ = some (.int .i64 0)) from fun u e => ⟨e.cell u0, e.cell u1, e.cell u2, e.cell u3, e.cell u4⟩)
      go_upto_region 10 with fail
      refine region_held_from (w0 := U) (S := fun u => u.cell? ⟨c, 0, none⟩ = some (.int .i64 q) ∧ u.cell? ⟨c, 1, none⟩ = some (.int .i64 z) ∧ u.cell? ⟨c, 2, none⟩ = some (.slice (some dP) 0 0) ∧ u.cell? ⟨c, 3, none⟩ = some (.slice (some dM) 0 0) ∧ u.cell? ⟨c, 4, none⟩ = some (.int .i64 0)) (by kernel_rfl) hSx.out (fun wd ed hHeld0 => ?_)
      refine wpAnyH_take (i := 0) (v := .agg #[.int .i64 q, .int .i64 z, .slice (some dP) 0 0, .slice (some dM) 0 0, .int .i64 0]) rfl (by kernel_rfl) (by kernel_rfl) (by kernel_rfl) (fun _ _ _ h => h) (Or.inl ⟨by rfl, by intro wx hx; obtain ⟨_, _, _, _, _⟩ := hx; go_simp⟩) (by assumption) ?_
      try simp only [List.getElem_toArray, List.getElem_cons_zero, Act.put, List.setIfInBounds_toArray, List.set_cons_zero, List.set_cons_succ]
      refine wpAnyH_take (i := 1) (v := .bool false) rfl (by kernel_rfl) (by kernel_rfl) (by kernel_rfl) (fun _ _ _ h => h) (Or.inl ⟨by rfl, by intro wx hx; go_simp⟩) (by assumption) ?_
      try simp only [List.getElem_toArray, List.getElem_cons_succ, List.getElem_cons_zero, Act.put, List.setIfInBounds_toArray, List.set_cons_zero, List.set_cons_succ]
      refine wpAnyH_take (i := 2) (v := .bool false) rfl (by kernel_rfl) (by kernel_rfl) (by kernel_rfl) (fun _ _ _ h => h) (Or.inl ⟨by rfl, by intro wx hx; go_simp⟩) (by assumption) ?_
      try simp only [List.getElem_toArray, List.getElem_cons_succ, List.getElem_cons_zero, Act.put, List.setIfInBounds_toArray, List.set_cons_zero, List.set_cons_succ]
      refine wpAnyH_take (i := 3) (v := undef) rfl (by kernel_rfl) (by kernel_rfl) (by kernel_rfl) (fun _ _ _ h => h) (Or.inr ⟨by kernel_rfl, rfl⟩) (by assumption) ?_
      try simp only [List.getElem_toArray, List.getElem_cons_succ, List.getElem_cons_zero, Act.put, List.setIfInBounds_toArray, List.set_cons_zero, List.set_cons_succ]
      refine wpAnyH_take (i := 4) (v := undef) rfl (by kernel_rfl) (by kernel_rfl) (by kernel_rfl) (fun _ _ _ h => h) (Or.inr ⟨by kernel_rfl, rfl⟩) (by assumption) ?_
      try simp only [List.getElem_toArray, List.getElem_cons_succ, List.getElem_cons_zero, Act.put, List.setIfInBounds_toArray, List.set_cons_zero, List.set_cons_succ]
      refine wpAnyH_take (i := 5) (v := undef) rfl (by kernel_rfl) (by kernel_rfl) (by kernel_rfl) (fun _ _ _ h => h) (Or.inr ⟨by kernel_rfl, rfl⟩) (by assumption) ?_
      try simp only [List.getElem_toArray, List.getElem_cons_succ, List.getElem_cons_zero, Act.put, List.setIfInBounds_toArray, List.set_cons_zero, List.set_cons_succ]
      refine wpAnyH_take (i := 6) (v := undef) rfl (by kernel_rfl) (by kernel_rfl) (by kernel_rfl) (fun _ _ _ h => h) (Or.inr ⟨by kernel_rfl, rfl⟩) (by assumption) ?_
      try simp only [List.getElem_toArray, List.getElem_cons_succ, List.getElem_cons_zero, Act.put, List.setIfInBounds_toArray, List.set_cons_zero, List.set_cons_succ]
      refine wpAnyH_take (i := 7) (v := undef) rfl (by kernel_rfl) (by kernel_rfl) (by kernel_rfl) (fun _ _ _ h => h) (Or.inr ⟨by kernel_rfl, rfl⟩) (by assumption) ?_
      try simp only [List.getElem_toArray, List.getElem_cons_succ, List.getElem_cons_zero, Act.put, List.setIfInBounds_toArray, List.set_cons_zero, List.set_cons_succ]
      refine wpAnyH_take (i := 8) (v := .bool false) rfl (by kernel_rfl) (by kernel_rfl) (by kernel_rfl) (fun _ _ _ h => h) (Or.inl ⟨by rfl, by intro wx hx; go_simp⟩) (by assumption) ?_
      try simp only [List.getElem_toArray, List.getElem_cons_succ, List.getElem_cons_zero, Act.put, List.setIfInBounds_toArray, List.set_cons_zero, List.set_cons_succ]
      have ewd : Ext w wd := Ext.trans ewU ed
      have e3d : Ext w3 wd := Ext.trans e3U ed
      have y0 := ed.cell u0
      have y1 := ed.cell u1
      have y2 := ed.cell u2
      have y3 := ed.cell u3
      have y4 := ed.cell u4
      have f0 := ed.frozen z0 f0
      have f1 := ed.frozen z1 f1
      have f2 := ed.frozen z2 f2
      have f3 := ed.frozen z3 f3
      have f4 := ed.frozen z4 f4
      have z0 := ed.cell z0
      have z1 := ed.cell z1
      have z2 := ed.cell z2
      have z3 := ed.cell z3
      have z4 := ed.cell z4
      refine wpAnyH_ready (rs := [9]) (by kernel_rfl) (by simp) ?_
      refine AllReadyH.cons rfl (fun K hK => ?_) AllReadyH.nil
      go_simp
      go_wp2_with fail
      refine hK.out _ _ ⟨by go_simp, by go_simp, by go_simp, by go_simp, by go_simp⟩ (fun _ => ?_)
      clear hK K
      try simp only [List.getElem_toArray, List.getElem_cons_succ, List.getElem_cons_zero, Act.put, List.setIfInBounds_toArray, List.set_cons_zero, List.set_cons_succ]
      refine wpAnyH_take (i := 10) (v := .bool false) rfl (by kernel_rfl) (by kernel_rfl) (by kernel_rfl) (fun _ _ _ h => h) (Or.inl ⟨by rfl, by intro wx hx; go_simp⟩) (by assumption) ?_
      try simp only [List.getElem_toArray, List.getElem_cons_succ, List.getElem_cons_zero, Act.put, List.setIfInBounds_toArray, List.set_cons_zero, List.set_cons_succ]
      refine wpAnyH_done (by kernel_rfl) ?_ _
      go_wp2_with fail
      refine bodyPost_ret (v := .tuple #[.agg #[.int .i64 q, .int .i64 z, .slice (some dP) 0 0, .slice (some dM) 0 0, .int .i64 0], .bool false]) (by simp [results, Tryz.results47, go_sem, z0, z1, z2, z3, z4]) rfl ?_
      refine ⟨dP, dM, (by simp), ?_, ?_⟩
      · have o4 := o3.out.ext (w' := wd)
        exact (((((o4.setBelow (p := ⟨w.heap.size, 0, none⟩) b2 _).setBelow (p := ⟨w.heap.size, 1, none⟩) b2 _).setBelow (p := ⟨w.heap.size, 2, none⟩) b2 _).setBelow (p := ⟨w.heap.size, 3, none⟩) b2 _).setBelow (p := ⟨w.heap.size, 4, none⟩) b2 _).mono (Nat.le_of_lt b2)
      · skip
        refine @Ext.set _ _ (@Ext.set _ _ (@Ext.set _ _ (@Ext.set _ _ (@Ext.set _ _ ewd ⟨w.heap.size, 0, none⟩ (Nat.le_refl _) _) ⟨w.heap.size, 1, none⟩ (Nat.le_refl _) _) ⟨w.heap.size, 2, none⟩ (Nat.le_refl _) _) ⟨w.heap.size, 3, none⟩ (Nat.le_refl _) _) ⟨w.heap.size, 4, none⟩ (Nat.le_refl _) _
    | true =>
      by_cases h6 : q = 6
      · subst h6
        have hSx := hid (show ∀ u, Ext U u → (u.cell? ⟨c, 0, none⟩ = some (.int .i64 6) ∧ u.cell? ⟨c, 1, none⟩ = some (.int .i64 z) ∧ u.cell? ⟨c, 2, none⟩ = some (.slice (some dP) 0 0) ∧ u.cell? ⟨c, 3, none⟩ = some (.slice (some dM) 0 0) ∧ u.cell? ⟨c, 4, none⟩ = some (.int .i64 0)) from fun u e => ⟨e.cell u0, e.cell u1, e.cell u2, e.cell u3, e.cell u4⟩)
        go_upto_region 10 with fail
        refine region_held_from (w0 := U) (S := fun u => u.cell? ⟨c, 0, none⟩ = some (.int .i64 6) ∧ u.cell? ⟨c, 1, none⟩ = some (.int .i64 z) ∧ u.cell? ⟨c, 2, none⟩ = some (.slice (some dP) 0 0) ∧ u.cell? ⟨c, 3, none⟩ = some (.slice (some dM) 0 0) ∧ u.cell? ⟨c, 4, none⟩ = some (.int .i64 0)) (by kernel_rfl) hSx.out (fun wd ed hHeld0 => ?_)
        refine wpAnyH_take (i := 0) (v := .agg #[.int .i64 6, .int .i64 z, .slice (some dP) 0 0, .slice (some dM) 0 0, .int .i64 0]) rfl (by kernel_rfl) (by kernel_rfl) (by kernel_rfl) (fun _ _ _ h => h) (Or.inl ⟨by rfl, by intro wx hx; obtain ⟨_, _, _, _, _⟩ := hx; go_simp⟩) (by assumption) ?_
        try simp only [List.getElem_toArray, List.getElem_cons_zero, Act.put, List.setIfInBounds_toArray, List.set_cons_zero, List.set_cons_succ]
        refine wpAnyH_take (i := 1) (v := .bool true) rfl (by kernel_rfl) (by kernel_rfl) (by kernel_rfl) (fun _ _ _ h => h) (Or.inl ⟨by rfl, by intro wx hx; go_simp⟩) (by assumption) ?_
        try simp only [List.getElem_toArray, List.getElem_cons_succ, List.getElem_cons_zero, Act.put, List.setIfInBounds_toArray, List.set_cons_zero, List.set_cons_succ]
        refine wpAnyH_take (i := 2) (v := .bool true) rfl (by kernel_rfl) (by kernel_rfl) (by kernel_rfl) (fun _ _ _ h => h) (Or.inl ⟨by rfl, by intro wx hx; go_simp⟩) (by assumption) ?_
        try simp only [List.getElem_toArray, List.getElem_cons_succ, List.getElem_cons_zero, Act.put, List.setIfInBounds_toArray, List.set_cons_zero, List.set_cons_succ]
        refine wpAnyH_take (i := 3) (v := .bool false) rfl (by kernel_rfl) (by kernel_rfl) (by kernel_rfl) (fun _ _ _ h => h) (Or.inl ⟨by rfl, by intro wx hx; go_simp⟩) (by assumption) ?_
        try simp only [List.getElem_toArray, List.getElem_cons_succ, List.getElem_cons_zero, Act.put, List.setIfInBounds_toArray, List.set_cons_zero, List.set_cons_succ]
        refine wpAnyH_take (i := 4) (v := .pointer (some ⟨c, 0, none⟩)) rfl (by kernel_rfl) (by kernel_rfl) (by kernel_rfl) (fun _ _ _ h => h) (Or.inl ⟨by rfl, by intro wx hx; go_simp⟩) (by assumption) ?_
        try simp only [List.getElem_toArray, List.getElem_cons_succ, List.getElem_cons_zero, Act.put, List.setIfInBounds_toArray, List.set_cons_zero, List.set_cons_succ]
        refine wpAnyH_take (i := 5) (v := .int .i64 6) rfl (by kernel_rfl) (by kernel_rfl) (by kernel_rfl) (fun _ _ _ h => h) (Or.inl ⟨by rfl, by intro wx hx; obtain ⟨_, _, _, _, _⟩ := hx; go_simp⟩) (by assumption) ?_
        try simp only [List.getElem_toArray, List.getElem_cons_succ, List.getElem_cons_zero, Act.put, List.setIfInBounds_toArray, List.set_cons_zero, List.set_cons_succ]
        refine wpAnyH_take (i := 6) (v := .bool true) rfl (by kernel_rfl) (by kernel_rfl) (by kernel_rfl) (fun _ _ _ h => h) (Or.inl ⟨by rfl, by intro wx hx; go_simp⟩) (by assumption) ?_
        try simp only [List.getElem_toArray, List.getElem_cons_succ, List.getElem_cons_zero, Act.put, List.setIfInBounds_toArray, List.set_cons_zero, List.set_cons_succ]
        refine wpAnyH_take (i := 7) (v := .bool false) rfl (by kernel_rfl) (by kernel_rfl) (by kernel_rfl) (fun _ _ _ h => h) (Or.inl ⟨by rfl, by intro wx hx; go_simp⟩) (by assumption) ?_
        try simp only [List.getElem_toArray, List.getElem_cons_succ, List.getElem_cons_zero, Act.put, List.setIfInBounds_toArray, List.set_cons_zero, List.set_cons_succ]
        refine wpAnyH_take (i := 8) (v := .bool false) rfl (by kernel_rfl) (by kernel_rfl) (by kernel_rfl) (fun _ _ _ h => h) (Or.inl ⟨by rfl, by intro wx hx; go_simp⟩) (by assumption) ?_
        try simp only [List.getElem_toArray, List.getElem_cons_succ, List.getElem_cons_zero, Act.put, List.setIfInBounds_toArray, List.set_cons_zero, List.set_cons_succ]
        have ewd : Ext w wd := Ext.trans ewU ed
        have e3d : Ext w3 wd := Ext.trans e3U ed
        have y0 := ed.cell u0
        have y1 := ed.cell u1
        have y2 := ed.cell u2
        have y3 := ed.cell u3
        have y4 := ed.cell u4
        have f0 := ed.frozen z0 f0
        have f1 := ed.frozen z1 f1
        have f2 := ed.frozen z2 f2
        have f3 := ed.frozen z3 f3
        have f4 := ed.frozen z4 f4
        have z0 := ed.cell z0
        have z1 := ed.cell z1
        have z2 := ed.cell z2
        have z3 := ed.cell z3
        have z4 := ed.cell z4
        refine wpAnyH_ready (rs := [9]) (by kernel_rfl) (by simp) ?_
        refine AllReadyH.cons rfl (fun K hK => ?_) AllReadyH.nil
        go_simp
        go_wp2_with fail
        refine hK.out _ _ ⟨by go_simp, by go_simp, by go_simp, by go_simp, by go_simp⟩ (fun _ => ?_)
        clear hK K
        try simp only [List.getElem_toArray, List.getElem_cons_succ, List.getElem_cons_zero, Act.put, List.setIfInBounds_toArray, List.set_cons_zero, List.set_cons_succ]
        refine wpAnyH_take (i := 10) (v := .bool false) rfl (by kernel_rfl) (by kernel_rfl) (by kernel_rfl) (fun _ _ _ h => h) (Or.inl ⟨by rfl, by intro wx hx; go_simp⟩) (by assumption) ?_
        try simp only [List.getElem_toArray, List.getElem_cons_succ, List.getElem_cons_zero, Act.put, List.setIfInBounds_toArray, List.set_cons_zero, List.set_cons_succ]
        refine wpAnyH_done (by kernel_rfl) ?_ _
        go_wp2_with fail
        refine bodyPost_ret (v := .tuple #[.agg #[.int .i64 6, .int .i64 z, .slice (some dP) 0 0, .slice (some dM) 0 0, .int .i64 0], .bool false]) (by simp [results, Tryz.results47, go_sem, z0, z1, z2, z3, z4]) rfl ?_
        refine ⟨dP, dM, (by simp), ?_, ?_⟩
        · have o4 := o3.out.ext (w' := wd)
          exact (((((o4.setBelow (p := ⟨w.heap.size, 0, none⟩) b2 _).setBelow (p := ⟨w.heap.size, 1, none⟩) b2 _).setBelow (p := ⟨w.heap.size, 2, none⟩) b2 _).setBelow (p := ⟨w.heap.size, 3, none⟩) b2 _).setBelow (p := ⟨w.heap.size, 4, none⟩) b2 _).mono (Nat.le_of_lt b2)
        · skip
          refine @Ext.set _ _ (@Ext.set _ _ (@Ext.set _ _ (@Ext.set _ _ (@Ext.set _ _ ewd ⟨w.heap.size, 0, none⟩ (Nat.le_refl _) _) ⟨w.heap.size, 1, none⟩ (Nat.le_refl _) _) ⟨w.heap.size, 2, none⟩ (Nat.le_refl _) _) ⟨w.heap.size, 3, none⟩ (Nat.le_refl _) _) ⟨w.heap.size, 4, none⟩ (Nat.le_refl _) _
      · have h6' : (q == 6) = false := beq_eq_false_iff_ne.2 h6
        replace h6 := hid h6
        have hSx := hid (show ∀ u, Ext U u → (u.cell? ⟨c, 0, none⟩ = some (.int .i64 q) ∧ u.cell? ⟨c, 1, none⟩ = some (.int .i64 z) ∧ u.cell? ⟨c, 2, none⟩ = some (.slice (some dP) 0 0) ∧ u.cell? ⟨c, 3, none⟩ = some (.slice (some dM) 0 0) ∧ u.cell? ⟨c, 4, none⟩ = some (.int .i64 0)) from fun u e => ⟨e.cell u0, e.cell u1, e.cell u2, e.cell u3, e.cell u4⟩)
        go_upto_region 10 with fail
        refine region_held_from (w0 := U) (S := fun u => u.cell? ⟨c, 0, none⟩ = some (.int .i64 q) ∧ u.cell? ⟨c, 1, none⟩ = some (.int .i64 z) ∧ u.cell? ⟨c, 2, none⟩ = some (.slice (some dP) 0 0) ∧ u.cell? ⟨c, 3, none⟩ = some (.slice (some dM) 0 0) ∧ u.cell? ⟨c, 4, none⟩ = some (.int .i64 0)) (by kernel_rfl) hSx.out (fun wd ed hHeld0 => ?_)
        refine wpAnyH_take (i := 0) (v := .agg #[.int .i64 q, .int .i64 z, .slice (some dP) 0 0, .slice (some dM) 0 0, .int .i64 0]) rfl (by kernel_rfl) (by kernel_rfl) (by kernel_rfl) (fun _ _ _ h => h) (Or.inl ⟨by rfl, by intro wx hx; obtain ⟨_, _, _, _, _⟩ := hx; go_simp⟩) (by assumption) ?_
        try simp only [List.getElem_toArray, List.getElem_cons_zero, Act.put, List.setIfInBounds_toArray, List.set_cons_zero, List.set_cons_succ]
        refine wpAnyH_take (i := 1) (v := .bool true) rfl (by kernel_rfl) (by kernel_rfl) (by kernel_rfl) (fun _ _ _ h => h) (Or.inl ⟨by rfl, by intro wx hx; go_simp⟩) (by assumption) ?_
        try simp only [List.getElem_toArray, List.getElem_cons_succ, List.getElem_cons_zero, Act.put, List.setIfInBounds_toArray, List.set_cons_zero, List.set_cons_succ]
        refine wpAnyH_take (i := 2) (v := .bool true) rfl (by kernel_rfl) (by kernel_rfl) (by kernel_rfl) (fun _ _ _ h => h) (Or.inl ⟨by rfl, by intro wx hx; go_simp⟩) (by assumption) ?_
        try simp only [List.getElem_toArray, List.getElem_cons_succ, List.getElem_cons_zero, Act.put, List.setIfInBounds_toArray, List.set_cons_zero, List.set_cons_succ]
        refine wpAnyH_take (i := 3) (v := .bool false) rfl (by kernel_rfl) (by kernel_rfl) (by kernel_rfl) (fun _ _ _ h => h) (Or.inl ⟨by rfl, by intro wx hx; go_simp⟩) (by assumption) ?_
        try simp only [List.getElem_toArray, List.getElem_cons_succ, List.getElem_cons_zero, Act.put, List.setIfInBounds_toArray, List.set_cons_zero, List.set_cons_succ]
        refine wpAnyH_take (i := 4) (v := .pointer (some ⟨c, 0, none⟩)) rfl (by kernel_rfl) (by kernel_rfl) (by kernel_rfl) (fun _ _ _ h => h) (Or.inl ⟨by rfl, by intro wx hx; go_simp⟩) (by assumption) ?_
        try simp only [List.getElem_toArray, List.getElem_cons_succ, List.getElem_cons_zero, Act.put, List.setIfInBounds_toArray, List.set_cons_zero, List.set_cons_succ]
        refine wpAnyH_take (i := 5) (v := .int .i64 q) rfl (by kernel_rfl) (by kernel_rfl) (by kernel_rfl) (fun _ _ _ h => h) (Or.inl ⟨by rfl, by intro wx hx; obtain ⟨_, _, _, _, _⟩ := hx; go_simp⟩) (by assumption) ?_
        try simp only [List.getElem_toArray, List.getElem_cons_succ, List.getElem_cons_zero, Act.put, List.setIfInBounds_toArray, List.set_cons_zero, List.set_cons_succ]
        refine wpAnyH_take (i := 6) (v := .bool false) rfl (by kernel_rfl) (by kernel_rfl) (by kernel_rfl) (fun _ _ _ h => h) (Or.inl ⟨by rfl, by intro wx hx; go_simp⟩) (by assumption) ?_
        try simp only [List.getElem_toArray, List.getElem_cons_succ, List.getElem_cons_zero, Act.put, List.setIfInBounds_toArray, List.set_cons_zero, List.set_cons_succ]
        refine wpAnyH_take (i := 7) (v := .bool true) rfl (by kernel_rfl) (by kernel_rfl) (by kernel_rfl) (fun _ _ _ h => h) (Or.inl ⟨by rfl, by intro wx hx; go_simp⟩) (by assumption) ?_
        try simp only [List.getElem_toArray, List.getElem_cons_succ, List.getElem_cons_zero, Act.put, List.setIfInBounds_toArray, List.set_cons_zero, List.set_cons_succ]
        refine wpAnyH_take (i := 8) (v := .bool true) rfl (by kernel_rfl) (by kernel_rfl) (by kernel_rfl) (fun _ _ _ h => h) (Or.inl ⟨by rfl, by intro wx hx; go_simp⟩) (by assumption) ?_
        try simp only [List.getElem_toArray, List.getElem_cons_succ, List.getElem_cons_zero, Act.put, List.setIfInBounds_toArray, List.set_cons_zero, List.set_cons_succ]
        have ewd : Ext w wd := Ext.trans ewU ed
        have e3d : Ext w3 wd := Ext.trans e3U ed
        have y0 := ed.cell u0
        have y1 := ed.cell u1
        have y2 := ed.cell u2
        have y3 := ed.cell u3
        have y4 := ed.cell u4
        have f0 := ed.frozen z0 f0
        have f1 := ed.frozen z1 f1
        have f2 := ed.frozen z2 f2
        have f3 := ed.frozen z3 f3
        have f4 := ed.frozen z4 f4
        have z0 := ed.cell z0
        have z1 := ed.cell z1
        have z2 := ed.cell z2
        have z3 := ed.cell z3
        have z4 := ed.cell z4
        refine wpAnyH_ready (rs := [9]) (by kernel_rfl) (by simp) ?_
        refine AllReadyH.cons rfl (fun K hK => ?_) AllReadyH.nil
        go_simp
        go_wp2_with fail
        refine hK.out _ _ ⟨by go_simp, by go_simp, by go_simp, by go_simp, by go_simp⟩ (fun _ => ?_)
        clear hK K
        try simp only [List.getElem_toArray, List.getElem_cons_succ, List.getElem_cons_zero, Act.put, List.setIfInBounds_toArray, List.set_cons_zero, List.set_cons_succ]
        refine wpAnyH_take (i := 10) (v := .bool true) rfl (by kernel_rfl) (by kernel_rfl) (by kernel_rfl) (fun _ _ _ h => h) (Or.inl ⟨by rfl, by intro wx hx; go_simp⟩) (by assumption) ?_
        try simp only [List.getElem_toArray, List.getElem_cons_succ, List.getElem_cons_zero, Act.put, List.setIfInBounds_toArray, List.set_cons_zero, List.set_cons_succ]
        refine wpAnyH_done (by kernel_rfl) ?_ _
        go_wp2_with fail
        refine bodyPost_ret (v := .tuple #[.agg #[.int .i64 q, .int .i64 z, .slice (some dP) 0 0, .slice (some dM) 0 0, .int .i64 0], .bool true]) (by simp [results, Tryz.results47, go_sem, z0, z1, z2, z3, z4]) rfl ?_
        refine ⟨dP, dM, (by simp), ?_, ?_⟩
        · have o4 := o3.out.ext (w' := wd)
          exact (((((o4.setBelow (p := ⟨w.heap.size, 0, none⟩) b2 _).setBelow (p := ⟨w.heap.size, 1, none⟩) b2 _).setBelow (p := ⟨w.heap.size, 2, none⟩) b2 _).setBelow (p := ⟨w.heap.size, 3, none⟩) b2 _).setBelow (p := ⟨w.heap.size, 4, none⟩) b2 _).mono (Nat.le_of_lt b2)
        · skip
          refine @Ext.set _ _ (@Ext.set _ _ (@Ext.set _ _ (@Ext.set _ _ (@Ext.set _ _ ewd ⟨w.heap.size, 0, none⟩ (Nat.le_refl _) _) ⟨w.heap.size, 1, none⟩ (Nat.le_refl _) _) ⟨w.heap.size, 2, none⟩ (Nat.le_refl _) _) ⟨w.heap.size, 3, none⟩ (Nat.le_refl _) _) ⟨w.heap.size, 4, none⟩ (Nat.le_refl _) _
  | true =>
    cases o1 with
    | false =>
      go_wp2_with fail
      with_reducible refine (hR2.out _).mono ?_
      rintro e w6 ⟨rfl, e6⟩
      have u0 := e6.cell u0
      have u1 := e6.cell u1
      have u2 := e6.cell u2
      have u3 := e6.cell u3
      have g4 := e6.frozen u4 g4
      have u4 := e6.cell u4
      have f0 := e6.frozen z0 f0
      have f1 := e6.frozen z1 f1
      have f2 := e6.frozen z2 f2
      have f3 := e6.frozen z3 f3
      have f4 := e6.frozen z4 f4
      have z0 := e6.cell z0
      have z1 := e6.cell z1
      have z2 := e6.cell z2
      have z3 := e6.cell z3
      have z4 := e6.cell z4
      obtain ⟨Y, hY⟩ : ∃ Y, Y = w6.setCell ⟨c, 4, none⟩ (.int .i64 h) := ⟨_, rfl⟩
      have e3Y : Ext w3 Y := by
        rw [hY]
        exact @Ext.set _ _ (Ext.trans e3U e6) ⟨c, 4, none⟩ (by rw [hc.out]; exact Nat.le_refl _) _
      have eY : Ext W Y := Ext.trans e13 e3Y
      have ewY : Ext w Y := Ext.trans eW eY
      have u0 : Y.cell? ⟨c, 0, none⟩ = some (.int .i64 q) := by rw [hY]; go_simp
      have u1 : Y.cell? ⟨c, 1, none⟩ = some (.int .i64 z) := by rw [hY]; go_simp
      have u2 : Y.cell? ⟨c, 2, none⟩ = some (.slice (some dP) 0 0) := by rw [hY]; go_simp
      have u3 : Y.cell? ⟨c, 3, none⟩ = some (.slice (some dM) 0 0) := by rw [hY]; go_simp
      have u4 : Y.cell? ⟨c, 4, none⟩ = some (.int .i64 h) := by rw [hY]; go_simp
      have f0 : Y.frozen? ⟨w.heap.size, 0, none⟩ = false := by rw [hY]; go_simp
      have f1 : Y.frozen? ⟨w.heap.size, 1, none⟩ = false := by rw [hY]; go_simp
      have f2 : Y.frozen? ⟨w.heap.size, 2, none⟩ = false := by rw [hY]; go_simp
      have f3 : Y.frozen? ⟨w.heap.size, 3, none⟩ = false := by rw [hY]; go_simp
      have f4 : Y.frozen? ⟨w.heap.size, 4, none⟩ = false := by rw [hY]; go_simp
      have z0 : Y.cell? ⟨w.heap.size, 0, none⟩ = some (.int .i64 0) := by rw [hY]; go_simp
      have z1 : Y.cell? ⟨w.heap.size, 1, none⟩ = some (.int .i64 0) := by rw [hY]; go_simp
      have z2 : Y.cell? ⟨w.heap.size, 2, none⟩ = some (.slice none 0 0) := by rw [hY]; go_simp
      have z3 : Y.cell? ⟨w.heap.size, 3, none⟩ = some (.slice none 0 0) := by rw [hY]; go_simp
      have z4 : Y.cell? ⟨w.heap.size, 4, none⟩ = some (.int .i64 0) := by rw [hY]; go_simp
      go_upto_region 9 with fail
      rw [← hY]
      replace hY := hid hY
      cases o2 with
      | false =>
        have hSx := hid (show ∀ u, Ext Y u → (u.cell? ⟨c, 0, none⟩ = some (.int .i64 q) ∧ u.cell? ⟨c, 1, none⟩ = some (.int .i64 z) ∧ u.cell? ⟨c, 2, none⟩ = some (.slice (some dP) 0 0) ∧ u.cell? ⟨c, 3, none⟩ = some (.slice (some dM) 0 0) ∧ u.cell? ⟨c, 4, none⟩ = some (.int .i64 h)) from fun u e => ⟨e.cell u0, e.cell u1, e.cell u2, e.cell u3, e.cell u4⟩)
        go_upto_region 10 with fail
        refine region_held_from (w0 := Y) (S := fun u => u.cell? ⟨c, 0, none⟩ = some (.int .i64 q) ∧ u.cell? ⟨c, 1, none⟩ = some (.int .i64 z) ∧ u.cell? ⟨c, 2, none⟩ = some (.slice (some dP) 0 0) ∧ u.cell? ⟨c, 3, none⟩ = some (.slice (some dM) 0 0) ∧ u.cell? ⟨c, 4, none⟩ = some (.int .i64 h)) (by kernel_rfl) hSx.out (fun wd ed hHeld0 => ?_)
        refine wpAnyH_take (i := 0) (v := .agg #[.int .i64 q, .int .i64 z, .slice (some dP) 0 0, .slice (some dM) 0 0, .int .i64 h]) rfl (by kernel_rfl) (by kernel_rfl) (by kernel_rfl) (fun _ _ _ h => h) (Or.inl ⟨by rfl, by intro wx hx; obtain ⟨_, _, _, _, _⟩ := hx; go_simp⟩) (by assumption) ?_
        try simp only [List.getElem_toArray, List.getElem_cons_zero, Act.put, List.setIfInBounds_toArray, List.set_cons_zero, List.set_cons_succ]
        refine wpAnyH_take (i := 1) (v := .bool false) rfl (by kernel_rfl) (by kernel_rfl) (by kernel_rfl) (fun _ _ _ h => h) (Or.inl ⟨by rfl, by intro wx hx; go_simp⟩) (by assumption) ?_
        try simp only [List.getElem_toArray, List.getElem_cons_succ, List.getElem_cons_zero, Act.put, List.setIfInBounds_toArray, List.set_cons_zero, List.set_cons_succ]
        refine wpAnyH_take (i := 2) (v := .bool false) rfl (by kernel_rfl) (by kernel_rfl) (by kernel_rfl) (fun _ _ _ h => h) (Or.inl ⟨by rfl, by intro wx hx; go_simp⟩) (by assumption) ?_
        try simp only [List.getElem_toArray, List.getElem_cons_succ, List.getElem_cons_zero, Act.put, List.setIfInBounds_toArray, List.set_cons_zero, List.set_cons_succ]
        refine wpAnyH_take (i := 3) (v := undef) rfl (by kernel_rfl) (by kernel_rfl) (by kernel_rfl) (fun _ _ _ h => h) (Or.inr ⟨by kernel_rfl, rfl⟩) (by assumption) ?_
        try simp only [List.getElem_toArray, List.getElem_cons_succ, List.getElem_cons_zero, Act.put, List.setIfInBounds_toArray, List.set_cons_zero, List.set_cons_succ]
        refine wpAnyH_take (i := 4) (v := undef) rfl (by kernel_rfl) (by kernel_rfl) (by kernel_rfl) (fun _ _ _ h => h) (Or.inr ⟨by kernel_rfl, rfl⟩) (by assumption) ?_
        try simp only [List.getElem_toArray, List.getElem_cons_succ, List.getElem_cons_zero, Act.put, List.setIfInBounds_toArray, List.set_cons_zero, List.set_cons_succ]
        refine wpAnyH_take (i := 5) (v := undef) rfl (by kernel_rfl) (by kernel_rfl) (by kernel_rfl) (fun _ _ _ h => h) (Or.inr ⟨by kernel_rfl, rfl⟩) (by assumption) ?_
        try simp only [List.getElem_toArray, List.getElem_cons_succ, List.getElem_cons_zero, Act.put, List.setIfInBounds_toArray, List.set_cons_zero, List.set_cons_succ]
        refine wpAnyH_take (i := 6) (v := undef) rfl (by kernel_rfl) (by kernel_rfl) (by kernel_rfl) (fun _ _ _ h => h) (Or.inr ⟨by kernel_rfl, rfl⟩) (by assumption) ?_
        try simp only [List.getElem_toArray, List.getElem_cons_succ, List.getElem_cons_zero, Act.put, List.setIfInBounds_toArray, List.set_cons_zero, List.set_cons_succ]
        refine wpAnyH_take (i := 7) (v := undef) rfl (by kernel_rfl) (by kernel_rfl) (by kernel_rfl) (fun _ _ _ h => h) (Or.inr ⟨by kernel_rfl, rfl⟩) (by assumption) ?_
        try simp only [List.getElem_toArray, List.getElem_cons_succ, List.getElem_cons_zero, Act.put, List.setIfInBounds_toArray, List.set_cons_zero, List.set_cons_succ]
        refine wpAnyH_take (i := 8) (v := .bool false) rfl (by kernel_rfl) (by kernel_rfl) (by kernel_rfl) (fun _ _ _ h => h) (Or.inl ⟨by rfl, by intro wx hx; go_simp⟩) (by assumption) ?_
        try simp only [List.getElem_toArray, List.getElem_cons_succ, List.getElem_cons_zero, Act.put, List.setIfInBounds_toArray, List.set_cons_zero, List.set_cons_succ]
        have ewd : Ext w wd := Ext.trans ewY ed
        have e3d : Ext w3 wd := Ext.trans e3Y ed
        have y0 := ed.cell u0
        have y1 := ed.cell u1
        have y2 := ed.cell u2
        have y3 := ed.cell u3
        have y4 := ed.cell u4
        have f0 := ed.frozen z0 f0
        have f1 := ed.frozen z1 f1
        have f2 := ed.frozen z2 f2
        have f3 := ed.frozen z3 f3
        have f4 := ed.frozen z4 f4
        have z0 := ed.cell z0
        have z1 := ed.cell z1
        have z2 := ed.cell z2
        have z3 := ed.cell z3
        have z4 := ed.cell z4
        refine wpAnyH_ready (rs := [9]) (by kernel_rfl) (by simp) ?_
        refine AllReadyH.cons rfl (fun K hK => ?_) AllReadyH.nil
        go_simp
        go_wp2_with fail
        refine hK.out _ _ ⟨by go_simp, by go_simp, by go_simp, by go_simp, by go_simp⟩ (fun _ => ?_)
        clear hK K
        try simp only [List.getElem_toArray, List.getElem_cons_succ, List.getElem_cons_zero, Act.put, List.setIfInBounds_toArray, List.set_cons_zero, List.set_cons_succ]
        refine wpAnyH_take (i := 10) (v := .bool false) rfl (by kernel_rfl) (by kernel_rfl) (by kernel_rfl) (fun _ _ _ h => h) (Or.inl ⟨by rfl, by intro wx hx; go_simp⟩) (by assumption) ?_
        try simp only [List.getElem_toArray, List.getElem_cons_succ, List.getElem_cons_zero, Act.put, List.setIfInBounds_toArray, List.set_cons_zero, List.set_cons_succ]
        refine wpAnyH_done (by kernel_rfl) ?_ _
        go_wp2_with fail
        refine bodyPost_ret (v := .tuple #[.agg #[.int .i64 q, .int .i64 z, .slice (some dP) 0 0, .slice (some dM) 0 0, .int .i64 h], .bool false]) (by simp [results, Tryz.results47, go_sem, z0, z1, z2, z3, z4]) rfl ?_
        refine ⟨dP, dM, (by simp), ?_, ?_⟩
        · have o4 := o3.out.ext (w' := wd)
          exact (((((o4.setBelow (p := ⟨w.heap.size, 0, none⟩) b2 _).setBelow (p := ⟨w.heap.size, 1, none⟩) b2 _).setBelow (p := ⟨w.heap.size, 2, none⟩) b2 _).setBelow (p := ⟨w.heap.size, 3, none⟩) b2 _).setBelow (p := ⟨w.heap.size, 4, none⟩) b2 _).mono (Nat.le_of_lt b2)
        · skip
          refine @Ext.set _ _ (@Ext.set _ _ (@Ext.set _ _ (@Ext.set _ _ (@Ext.set _ _ ewd ⟨w.heap.size, 0, none⟩ (Nat.le_refl _) _) ⟨w.heap.size, 1, none⟩ (Nat.le_refl _) _) ⟨w.heap.size, 2, none⟩ (Nat.le_refl _) _) ⟨w.heap.size, 3, none⟩ (Nat.le_refl _) _) ⟨w.heap.size, 4, none⟩ (Nat.le_refl _) _
      | true =>
        have hSx := hid (show ∀ u, Ext Y u → (u.cell? ⟨c, 0, none⟩ = some (.int .i64 q) ∧ u.cell? ⟨c, 1, none⟩ = some (.int .i64 z) ∧ u.cell? ⟨c, 2, none⟩ = some (.slice (some dP) 0 0) ∧ u.cell? ⟨c, 3, none⟩ = some (.slice (some dM) 0 0) ∧ u.cell? ⟨c, 4, none⟩ = some (.int .i64 h)) from fun u e => ⟨e.cell u0, e.cell u1, e.cell u2, e.cell u3, e.cell u4⟩)
        go_upto_region 10 with fail
        refine region_held_from (w0 := Y) (S := fun u => u.cell? ⟨c, 0, none⟩ = some (.int .i64 q) ∧ u.cell? ⟨c, 1, none⟩ = some (.int .i64 z) ∧ u.cell? ⟨c, 2, none⟩ = some (.slice (some dP) 0 0) ∧ u.cell? ⟨c, 3, none⟩ = some (.slice (some dM) 0 0) ∧ u.cell? ⟨c, 4, none⟩ = some (.int .i64 h)) (by kernel_rfl) hSx.out (fun wd ed hHeld0 => ?_)
        refine wpAnyH_take (i := 0) (v := .agg #[.int .i64 q, .int .i64 z, .slice (some dP) 0 0, .slice (some dM) 0 0, .int .i64 h]) rfl (by kernel_rfl) (by kernel_rfl) (by kernel_rfl) (fun _ _ _ h => h) (Or.inl ⟨by rfl, by intro wx hx; obtain ⟨_, _, _, _, _⟩ := hx; go_simp⟩) (by assumption) ?_
        try simp only [List.getElem_toArray, List.getElem_cons_zero, Act.put, List.setIfInBounds_toArray, List.set_cons_zero, List.set_cons_succ]
        refine wpAnyH_take (i := 1) (v := .bool false) rfl (by kernel_rfl) (by kernel_rfl) (by kernel_rfl) (fun _ _ _ h => h) (Or.inl ⟨by rfl, by intro wx hx; go_simp⟩) (by assumption) ?_
        try simp only [List.getElem_toArray, List.getElem_cons_succ, List.getElem_cons_zero, Act.put, List.setIfInBounds_toArray, List.set_cons_zero, List.set_cons_succ]
        refine wpAnyH_take (i := 2) (v := .bool false) rfl (by kernel_rfl) (by kernel_rfl) (by kernel_rfl) (fun _ _ _ h => h) (Or.inl ⟨by rfl, by intro wx hx; go_simp⟩) (by assumption) ?_
        try simp only [List.getElem_toArray, List.getElem_cons_succ, List.getElem_cons_zero, Act.put, List.setIfInBounds_toArray, List.set_cons_zero, List.set_cons_succ]
        refine wpAnyH_take (i := 3) (v := undef) rfl (by kernel_rfl) (by kernel_rfl) (by kernel_rfl) (fun _ _ _ h => h) (Or.inr ⟨by kernel_rfl, rfl⟩) (by assumption) ?_
        try simp only [List.getElem_toArray, List.getElem_cons_succ, List.getElem_cons_zero, Act.put, List.setIfInBounds_toArray, List.set_cons_zero, List.set_cons_succ]
        refine wpAnyH_take (i := 4) (v := undef) rfl (by kernel_rfl) (by kernel_rfl) (by kernel_rfl) (fun _ _ _ h => h) (Or.inr ⟨by kernel_rfl, rfl⟩) (by assumption) ?_
        try simp only [List.getElem_toArray, List.getElem_cons_succ, List.getElem_cons_zero, Act.put, List.setIfInBounds_toArray, List.set_cons_zero, List.set_cons_succ]
        refine wpAnyH_take (i := 5) (v := undef) rfl (by kernel_rfl) (by kernel_rfl) (by kernel_rfl) (fun _ _ _ h => h) (Or.inr ⟨by kernel_rfl, rfl⟩) (by assumption) ?_
        try simp only [List.getElem_toArray, List.getElem_cons_succ, List.getElem_cons_zero, Act.put, List.setIfInBounds_toArray, List.set_cons_zero, List.set_cons_succ]
        refine wpAnyH_take (i := 6) (v := undef) rfl (by kernel_rfl) (by kernel_rfl) (by kernel_rfl) (fun _ _ _ h => h) (Or.inr ⟨by kernel_rfl, rfl⟩) (by assumption) ?_
        try simp only [List.getElem_toArray, List.getElem_cons_succ, List.getElem_cons_zero, Act.put, List.setIfInBounds_toArray, List.set_cons_zero, List.set_cons_succ]
        refine wpAnyH_take (i := 7) (v := undef) rfl (by kernel_rfl) (by kernel_rfl) (by kernel_rfl) (fun _ _ _ h => h) (Or.inr ⟨by kernel_rfl, rfl⟩) (by assumption) ?_
        try simp only [List.getElem_toArray, List.getElem_cons_succ, List.getElem_cons_zero, Act.put, List.setIfInBounds_toArray, List.set_cons_zero, List.set_cons_succ]
        refine wpAnyH_take (i := 8) (v := .bool false) rfl (by kernel_rfl) (by kernel_rfl) (by kernel_rfl) (fun _ _ _ h => h) (Or.inl ⟨by rfl, by intro wx hx; go_simp⟩) (by assumption) ?_
        try simp only [List.getElem_toArray, List.getElem_cons_succ, List.getElem_cons_zero, Act.put, List.setIfInBounds_toArray, List.set_cons_zero, List.set_cons_succ]
        have ewd : Ext w wd := Ext.trans ewY ed
        have e3d : Ext w3 wd := Ext.trans e3Y ed
        have y0 := ed.cell u0
        have y1 := ed.cell u1
        have y2 := ed.cell u2
        have y3 := ed.cell u3
        have y4 := ed.cell u4
        have f0 := ed.frozen z0 f0
        have f1 := ed.frozen z1 f1
        have f2 := ed.frozen z2 f2
        have f3 := ed.frozen z3 f3
        have f4 := ed.frozen z4 f4
        have z0 := ed.cell z0
        have z1 := ed.cell z1
        have z2 := ed.cell z2
        have z3 := ed.cell z3
        have z4 := ed.cell z4
        refine wpAnyH_ready (rs := [9]) (by kernel_rfl) (by simp) ?_
        refine AllReadyH.cons rfl (fun K hK => ?_) AllReadyH.nil
        go_simp
        go_wp2_with fail
        refine hK.out _ _ ⟨by go_simp, by go_simp, by go_simp, by go_simp, by go_simp⟩ (fun _ => ?_)
        clear hK K
        try simp only [List.getElem_toArray, List.getElem_cons_succ, List.getElem_cons_zero, Act.put, List.setIfInBounds_toArray, List.set_cons_zero, List.set_cons_succ]
        refine wpAnyH_take (i := 10) (v := .bool false) rfl (by kernel_rfl) (by kernel_rfl) (by kernel_rfl) (fun _ _ _ h => h) (Or.inl ⟨by rfl, by intro wx hx; go_simp⟩) (by assumption) ?_
        try simp only [List.getElem_toArray, List.getElem_cons_succ, List.getElem_cons_zero, Act.put, List.setIfInBounds_toArray, List.set_cons_zero, List.set_cons_succ]
        refine wpAnyH_done (by kernel_rfl) ?_ _
        go_wp2_with fail
        refine bodyPost_ret (v := .tuple #[.agg #[.int .i64 q, .int .i64 z, .slice (some dP) 0 0, .slice (some dM) 0 0, .int .i64 h], .bool false]) (by simp [results, Tryz.results47, go_sem, z0, z1, z2, z3, z4]) rfl ?_
        refine ⟨dP, dM, (by simp), ?_, ?_⟩
        · have o4 := o3.out.ext (w' := wd)
          exact (((((o4.setBelow (p := ⟨w.heap.size, 0, none⟩) b2 _).setBelow (p := ⟨w.heap.size, 1, none⟩) b2 _).setBelow (p := ⟨w.heap.size, 2, none⟩) b2 _).setBelow (p := ⟨w.heap.size, 3, none⟩) b2 _).setBelow (p := ⟨w.heap.size, 4, none⟩) b2 _).mono (Nat.le_of_lt b2)
        · skip
          refine @Ext.set _ _ (@Ext.set _ _ (@Ext.set _ _ (@Ext.set _ _ (@Ext.set _ _ ewd ⟨w.heap.size, 0, none⟩ (Nat.le_refl _) _) ⟨w.heap.size, 1, none⟩ (Nat.le_refl _) _) ⟨w.heap.size, 2, none⟩ (Nat.le_refl _) _) ⟨w.heap.size, 3, none⟩ (Nat.le_refl _) _) ⟨w.heap.size, 4, none⟩ (Nat.le_refl _) _
    | true =>
      by_cases h6 : q = 6
      · subst h6
        go_wp2_with fail
        with_reducible refine (hR2.out _).mono ?_
        rintro e w6 ⟨rfl, e6⟩
        have u0 := e6.cell u0
        have u1 := e6.cell u1
        have u2 := e6.cell u2
        have u3 := e6.cell u3
        have g4 := e6.frozen u4 g4
        have u4 := e6.cell u4
        have f0 := e6.frozen z0 f0
        have f1 := e6.frozen z1 f1
        have f2 := e6.frozen z2 f2
        have f3 := e6.frozen z3 f3
        have f4 := e6.frozen z4 f4
        have z0 := e6.cell z0
        have z1 := e6.cell z1
        have z2 := e6.cell z2
        have z3 := e6.cell z3
        have z4 := e6.cell z4
        obtain ⟨Y, hY⟩ : ∃ Y, Y = w6.setCell ⟨c, 4, none⟩ (.int .i64 h) := ⟨_, rfl⟩
        have e3Y : Ext w3 Y := by
          rw [hY]
          exact @Ext.set _ _ (Ext.trans e3U e6) ⟨c, 4, none⟩ (by rw [hc.out]; exact Nat.le_refl _) _
        have eY : Ext W Y := Ext.trans e13 e3Y
        have ewY : Ext w Y := Ext.trans eW eY
        have u0 : Y.cell? ⟨c, 0, none⟩ = some (.int .i64 6) := by rw [hY]; go_simp
        have u1 : Y.cell? ⟨c, 1, none⟩ = some (.int .i64 z) := by rw [hY]; go_simp
        have u2 : Y.cell? ⟨c, 2, none⟩ = some (.slice (some dP) 0 0) := by rw [hY]; go_simp
        have u3 : Y.cell? ⟨c, 3, none⟩ = some (.slice (some dM) 0 0) := by rw [hY]; go_simp
        have u4 : Y.cell? ⟨c, 4, none⟩ = some (.int .i64 h) := by rw [hY]; go_simp
        have f0 : Y.frozen? ⟨w.heap.size, 0, none⟩ = false := by rw [hY]; go_simp
        have f1 : Y.frozen? ⟨w.heap.size, 1, none⟩ = false := by rw [hY]; go_simp
        have f2 : Y.frozen? ⟨w.heap.size, 2, none⟩ = false := by rw [hY]; go_simp
        have f3 : Y.frozen? ⟨w.heap.size, 3, none⟩ = false := by rw [hY]; go_simp
        have f4 : Y.frozen? ⟨w.heap.size, 4, none⟩ = false := by rw [hY]; go_simp
        have z0 : Y.cell? ⟨w.heap.size, 0, none⟩ = some (.int .i64 0) := by rw [hY]; go_simp
        have z1 : Y.cell? ⟨w.heap.size, 1, none⟩ = some (.int .i64 0) := by rw [hY]; go_simp
        have z2 : Y.cell? ⟨w.heap.size, 2, none⟩ = some (.slice none 0 0) := by rw [hY]; go_simp
        have z3 : Y.cell? ⟨w.heap.size, 3, none⟩ = some (.slice none 0 0) := by rw [hY]; go_simp
        have z4 : Y.cell? ⟨w.heap.size, 4, none⟩ = some (.int .i64 0) := by rw [hY]; go_simp
        go_upto_region 9 with fail
        rw [← hY]
        replace hY := hid hY
        cases o2 with
        | false =>
          have hSx := hid (show ∀ u, Ext Y u → (u.cell? ⟨c, 0, none⟩ = some (.int .i64 6) ∧ u.cell? ⟨c, 1, none⟩ = some (.int .i64 z) ∧ u.cell? ⟨c, 2, none⟩ = some (.slice (some dP) 0 0) ∧ u.cell? ⟨c, 3, none⟩ = some (.slice (some dM) 0 0) ∧ u.cell? ⟨c, 4, none⟩ = some (.int .i64 h)) from fun u e => ⟨e.cell u0, e.cell u1, e.cell u2, e.cell u3, e.cell u4⟩)
          go_upto_region 10 with fail
          refine region_held_from (w0 := Y) (S := fun u => u.cell? ⟨c, 0, none⟩ = some (.int .i64 6) ∧ u.cell? ⟨c, 1, none⟩ = some (.int .i64 z) ∧ u.cell? ⟨c, 2, none⟩ = some (.slice (some dP) 0 0) ∧ u.cell? ⟨c, 3, none⟩ = some (.slice (some dM) 0 0) ∧ u.cell? ⟨c, 4, none⟩ = some (.int .i64 h)) (by kernel_rfl) hSx.out (fun wd ed hHeld0 => ?_)
          refine wpAnyH_take (i := 0) (v := .agg #[.int .i64 6, .int .i64 z, .slice (some dP) 0 0, .slice (some dM) 0 0, .int .i64 h]) rfl (by kernel_rfl) (by kernel_rfl) (by kernel_rfl) (fun _ _ _ h => h) (Or.inl ⟨by rfl, by intro wx hx; obtain ⟨_, _, _, _, _⟩ := hx; go_simp⟩) (by assumption) ?_
          try simp only [List.getElem_toArray, List.getElem_cons_zero, Act.put, List.setIfInBounds_toArray, List.set_cons_zero, List.set_cons_succ]
          refine wpAnyH_take (i := 1) (v := .bool false) rfl (by kernel_rfl) (by kernel_rfl) (by kernel_rfl) (fun _ _ _ h => h) (Or.inl ⟨by rfl, by intro wx hx; go_simp⟩) (by assumption) ?_
          try simp only [List.getElem_toArray, List.getElem_cons_succ, List.getElem_cons_zero, Act.put, List.setIfInBounds_toArray, List.set_cons_zero, List.set_cons_succ]
          refine wpAnyH_take (i := 2) (v := .bool false) rfl (by kernel_rfl) (by kernel_rfl) (by kernel_rfl) (fun _ _ _ h => h) (Or.inl ⟨by rfl, by intro wx hx; go_simp⟩) (by assumption) ?_
          try simp only [List.getElem_toArray, List.getElem_cons_succ, List.getElem_cons_zero, Act.put, List.setIfInBounds_toArray, List.set_cons_zero, List.set_cons_succ]
          refine wpAnyH_take (i := 3) (v := undef) rfl (by kernel_rfl) (by kernel_rfl) (by kernel_rfl) (fun _ _ _ h => h) (Or.inr ⟨by kernel_rfl, rfl⟩) (by assumption) ?_
          try simp only [List.getElem_toArray, List.getElem_cons_succ, List.getElem_cons_zero, Act.put, List.setIfInBounds_toArray, List.set_cons_zero, List.set_cons_succ]
          refine wpAnyH_take (i := 4) (v := undef) rfl (by kernel_rfl) (by kernel_rfl) (by kernel_rfl) (fun _ _ _ h => h) (Or.inr ⟨by kernel_rfl, rfl⟩) (by assumption) ?_
          try simp only [List.getElem_toArray, List.getElem_cons_succ, List.getElem_cons_zero, Act.put, List.setIfInBounds_toArray, List.set_cons_zero, List.set_cons_succ]
          refine wpAnyH_take (i := 5) (v := undef) rfl (by kernel_rfl) (by kernel_rfl) (by kernel_rfl) (fun _ _ _ h => h) (Or.inr ⟨by kernel_rfl, rfl⟩) (by assumption) ?_
          try simp only [List.getElem_toArray, List.getElem_cons_succ, List.getElem_cons_zero, Act.put, List.setIfInBounds_toArray, List.set_cons_zero, List.set_cons_succ]
          refine wpAnyH_take (i := 6) (v := undef) rfl (by kernel_rfl) (by kernel_rfl) (by kernel_rfl) (fun _ _ _ h => h) (Or.inr ⟨by kernel_rfl, rfl⟩) (by assumption) ?_
          try simp only [List.getElem_toArray, List.getElem_cons_succ, List.getElem_cons_zero, Act.put, List.setIfInBounds_toArray, List.set_cons_zero, List.set_cons_succ]
          refine wpAnyH_take (i := 7) (v := undef) rfl (by kernel_rfl) (by kernel_rfl) (by kernel_rfl) (fun _ _ _ h => h) (Or.inr ⟨by kernel_rfl, rfl⟩) (by assumption) ?_
          try simp only [List.getElem_toArray, List.getElem_cons_succ, List.getElem_cons_zero, Act.put, List.setIfInBounds_toArray, List.set_cons_zero, List.set_cons_succ]
          refine wpAnyH_take (i := 8) (v := .bool false) rfl (by kernel_rfl) (by kernel_rfl) (by kernel_rfl) (fun _ _ _ h => h) (Or.inl ⟨by rfl, by intro wx hx; go_simp⟩) (by assumption) ?_
          try simp only [List.getElem_toArray, List.getElem_cons_succ, List.getElem_cons_zero, Act.put, List.setIfInBounds_toArray, List.set_cons_zero, List.set_cons_succ]
          have ewd : Ext w wd := Ext.trans ewY ed
          have e3d : Ext w3 wd := Ext.trans e3Y ed
          have y0 := ed.cell u0
          have y1 := ed.cell u1
          have y2 := ed.cell u2
          have y3 := ed.cell u3
          have y4 := ed.cell u4
          have f0 := ed.frozen z0 f0
          have f1 := ed.frozen z1 f1
          have f2 := ed.frozen z2 f2
          have f3 := ed.frozen z3 f3
          have f4 := ed.frozen z4 f4
          have z0 := ed.cell z0
          have z1 := ed.cell z1
          have z2 := ed.cell z2
          have z3 := ed.cell z3
          have z4 := ed.cell z4
          refine wpAnyH_ready (rs := [9]) (by kernel_rfl) (by simp) ?_
          refine AllReadyH.cons rfl (fun K hK => ?_) AllReadyH.nil
          go_simp
          go_wp2_with fail
          refine hK.out _ _ ⟨by go_simp, by go_simp, by go_simp, by go_simp, by go_simp⟩ (fun _ => ?_)
          clear hK K
          try simp only [List.getElem_toArray, List.getElem_cons_succ, List.getElem_cons_zero, Act.put, List.setIfInBounds_toArray, List.set_cons_zero, List.set_cons_succ]
          refine wpAnyH_take (i := 10) (v := .bool false) rfl (by kernel_rfl) (by kernel_rfl) (by kernel_rfl) (fun _ _ _ h => h) (Or.inl ⟨by rfl, by intro wx hx; go_simp⟩) (by assumption) ?_
          try simp only [List.getElem_toArray, List.getElem_cons_succ, List.getElem_cons_zero, Act.put, List.setIfInBounds_toArray, List.set_cons_zero, List.set_cons_succ]
          refine wpAnyH_done (by kernel_rfl) ?_ _
          go_wp2_with fail
          refine bodyPost_ret (v := .tuple #[.agg #[.int .i64 6, .int .i64 z, .slice (some dP) 0 0, .slice (some dM) 0 0, .int .i64 h], .bool false]) (by simp [results, Tryz.results47, go_sem, z0, z1, z2, z3, z4]) rfl ?_
          refine ⟨dP, dM, (by simp), ?_, ?_⟩
          · have o4 := o3.out.ext (w' := wd)
            exact (((((o4.setBelow (p := ⟨w.heap.size, 0, none⟩) b2 _).setBelow (p := ⟨w.heap.size, 1, none⟩) b2 _).setBelow (p := ⟨w.heap.size, 2, none⟩) b2 _).setBelow (p := ⟨w.heap.size, 3, none⟩) b2 _).setBelow (p := ⟨w.heap.size, 4, none⟩) b2 _).mono (Nat.le_of_lt b2)
          · skip
            refine @Ext.set _ _ (@Ext.set _ _ (@Ext.set _ _ (@Ext.set _ _ (@Ext.set _ _ ewd ⟨w.heap.size, 0, none⟩ (Nat.le_refl _) _) ⟨w.heap.size, 1, none⟩ (Nat.le_refl _) _) ⟨w.heap.size, 2, none⟩ (Nat.le_refl _) _) ⟨w.heap.size, 3, none⟩ (Nat.le_refl _) _) ⟨w.heap.size, 4, none⟩ (Nat.le_refl _) _
        | true =>
          have hSx := hid (show ∀ u, Ext Y u → (u.cell? ⟨c, 0, none⟩ = some (.int .i64 6) ∧ u.cell? ⟨c, 1, none⟩ = some (.int .i64 z) ∧ u.cell? ⟨c, 2, none⟩ = some (.slice (some dP) 0 0) ∧ u.cell? ⟨c, 3, none⟩ = some (.slice (some dM) 0 0) ∧ u.cell? ⟨c, 4, none⟩ = some (.int .i64 h)) from fun u e => ⟨e.cell u0, e.cell u1, e.cell u2, e.cell u3, e.cell u4⟩)
          go_upto_region 10 with fail
          refine region_held_from (w0 := Y) (S := fun u => u.cell? ⟨c, 0, none⟩ = some (.int .i64 6) ∧ u.cell? ⟨c, 1, none⟩ = some (.int .i64 z) ∧ u.cell? ⟨c, 2, none⟩ = some (.slice (some dP) 0 0) ∧ u.cell? ⟨c, 3, none⟩ = some (.slice (some dM) 0 0) ∧ u.cell? ⟨c, 4, none⟩ = some (.int .i64 h)) (by kernel_rfl) hSx.out (fun wd ed hHeld0 => ?_)
          refine wpAnyH_take (i := 0) (v := .agg #[.int .i64 6, .int .i64 z, .slice (some dP) 0 0, .slice (some dM) 0 0, .int .i64 h]) rfl (by kernel_rfl) (by kernel_rfl) (by kernel_rfl) (fun _ _ _ h => h) (Or.inl ⟨by rfl, by intro wx hx; obtain ⟨_, _, _, _, _⟩ := hx; go_simp⟩) (by assumption) ?_
          try simp only [List.getElem_toArray, List.getElem_cons_zero, Act.put, List.setIfInBounds_toArray, List.set_cons_zero, List.set_cons_succ]
          refine wpAnyH_take (i := 1) (v := .bool true) rfl (by kernel_rfl) (by kernel_rfl) (by kernel_rfl) (fun _ _ _ h => h) (Or.inl ⟨by rfl, by intro wx hx; go_simp⟩) (by assumption) ?_
          try simp only [List.getElem_toArray, List.getElem_cons_succ, List.getElem_cons_zero, Act.put, List.setIfInBounds_toArray, List.set_cons_zero, List.set_cons_succ]
          refine wpAnyH_take (i := 2) (v := .bool true) rfl (by kernel_rfl) (by kernel_rfl) (by kernel_rfl) (fun _ _ _ h => h) (Or.inl ⟨by rfl, by intro wx hx; go_simp⟩) (by assumption) ?_
          try simp only [List.getElem_toArray, List.getElem_cons_succ, List.getElem_cons_zero, Act.put, List.setIfInBounds_toArray, List.set_cons_zero, List.set_cons_succ]
          refine wpAnyH_take (i := 3) (v := .bool true) rfl (by kernel_rfl) (by kernel_rfl) (by kernel_rfl) (fun _ _ _ h => h) (Or.inl ⟨by rfl, by intro wx hx; go_simp⟩) (by assumption) ?_
          try simp only [List.getElem_toArray, List.getElem_cons_succ, List.getElem_cons_zero, Act.put, List.setIfInBounds_toArray, List.set_cons_zero, List.set_cons_succ]
          refine wpAnyH_take (i := 4) (v := .pointer (some ⟨c, 0, none⟩)) rfl (by kernel_rfl) (by kernel_rfl) (by kernel_rfl) (fun _ _ _ h => h) (Or.inl ⟨by rfl, by intro wx hx; go_simp⟩) (by assumption) ?_
          try simp only [List.getElem_toArray, List.getElem_cons_succ, List.getElem_cons_zero, Act.put, List.setIfInBounds_toArray, List.set_cons_zero, List.set_cons_succ]
          refine wpAnyH_take (i := 5) (v := .int .i64 6) rfl (by kernel_rfl) (by kernel_rfl) (by kernel_rfl) (fun _ _ _ h => h) (Or.inl ⟨by rfl, by intro wx hx; obtain ⟨_, _, _, _, _⟩ := hx; go_simp⟩) (by assumption) ?_
          try simp only [List.getElem_toArray, List.getElem_cons_succ, List.getElem_cons_zero, Act.put, List.setIfInBounds_toArray, List.set_cons_zero, List.set_cons_succ]
          refine wpAnyH_take (i := 6) (v := .bool true) rfl (by kernel_rfl) (by kernel_rfl) (by kernel_rfl) (fun _ _ _ h => h) (Or.inl ⟨by rfl, by intro wx hx; go_simp⟩) (by assumption) ?_
          try simp only [List.getElem_toArray, List.getElem_cons_succ, List.getElem_cons_zero, Act.put, List.setIfInBounds_toArray, List.set_cons_zero, List.set_cons_succ]
          refine wpAnyH_take (i := 7) (v := .bool true) rfl (by kernel_rfl) (by kernel_rfl) (by kernel_rfl) (fun _ _ _ h => h) (Or.inl ⟨by rfl, by intro wx hx; go_simp⟩) (by assumption) ?_
          try simp only [List.getElem_toArray, List.getElem_cons_succ, List.getElem_cons_zero, Act.put, List.setIfInBounds_toArray, List.set_cons_zero, List.set_cons_succ]
          refine wpAnyH_take (i := 8) (v := .bool true) rfl (by kernel_rfl) (by kernel_rfl) (by kernel_rfl) (fun _ _ _ h => h) (Or.inl ⟨by rfl, by intro wx hx; go_simp⟩) (by assumption) ?_
          try simp only [List.getElem_toArray, List.getElem_cons_succ, List.getElem_cons_zero, Act.put, List.setIfInBounds_toArray, List.set_cons_zero, List.set_cons_succ]
          have ewd : Ext w wd := Ext.trans ewY ed
          have e3d : Ext w3 wd := Ext.trans e3Y ed
          have y0 := ed.cell u0
          have y1 := ed.cell u1
          have y2 := ed.cell u2
          have y3 := ed.cell u3
          have y4 := ed.cell u4
          have f0 := ed.frozen z0 f0
          have f1 := ed.frozen z1 f1
          have f2 := ed.frozen z2 f2
          have f3 := ed.frozen z3 f3
          have f4 := ed.frozen z4 f4
          have z0 := ed.cell z0
          have z1 := ed.cell z1
          have z2 := ed.cell z2
          have z3 := ed.cell z3
          have z4 := ed.cell z4
          refine wpAnyH_ready (rs := [9]) (by kernel_rfl) (by simp) ?_
          refine AllReadyH.cons rfl (fun K hK => ?_) AllReadyH.nil
          go_simp
          go_wp2_with fail
          refine hK.out _ _ ⟨by go_simp, by go_simp, by go_simp, by go_simp, by go_simp⟩ (fun _ => ?_)
          clear hK K
          try simp only [List.getElem_toArray, List.getElem_cons_succ, List.getElem_cons_zero, Act.put, List.setIfInBounds_toArray, List.set_cons_zero, List.set_cons_succ]
          refine wpAnyH_take (i := 10) (v := .bool true) rfl (by kernel_rfl) (by kernel_rfl) (by kernel_rfl) (fun _ _ _ h => h) (Or.inl ⟨by rfl, by intro wx hx; go_simp⟩) (by assumption) ?_
          try simp only [List.getElem_toArray, List.getElem_cons_succ, List.getElem_cons_zero, Act.put, List.setIfInBounds_toArray, List.set_cons_zero, List.set_cons_succ]
          refine wpAnyH_done (by kernel_rfl) ?_ _
          go_wp2_with fail
          refine bodyPost_ret (v := .tuple #[.agg #[.int .i64 6, .int .i64 z, .slice (some dP) 0 0, .slice (some dM) 0 0, .int .i64 h], .bool true]) (by simp [results, Tryz.results47, go_sem, z0, z1, z2, z3, z4]) rfl ?_
          refine ⟨dP, dM, (by simp), ?_, ?_⟩
          · have o4 := o3.out.ext (w' := wd)
            exact (((((o4.setBelow (p := ⟨w.heap.size, 0, none⟩) b2 _).setBelow (p := ⟨w.heap.size, 1, none⟩) b2 _).setBelow (p := ⟨w.heap.size, 2, none⟩) b2 _).setBelow (p := ⟨w.heap.size, 3, none⟩) b2 _).setBelow (p := ⟨w.heap.size, 4, none⟩) b2 _).mono (Nat.le_of_lt b2)
          · skip
            refine @Ext.set _ _ (@Ext.set _ _ (@Ext.set _ _ (@Ext.set _ _ (@Ext.set _ _ ewd ⟨w.heap.size, 0, none⟩ (Nat.le_refl _) _) ⟨w.heap.size, 1, none⟩ (Nat.le_refl _) _) ⟨w.heap.size, 2, none⟩ (Nat.le_refl _) _) ⟨w.heap.size, 3, none⟩ (Nat.le_refl _) _) ⟨w.heap.size, 4, none⟩ (Nat.le_refl _) _
      · have h6' : (q == 6) = false := beq_eq_false_iff_ne.2 h6
        replace h6 := hid h6
        go_wp2_with fail
        with_reducible refine (hR2.out _).mono ?_
        rintro e w6 ⟨rfl, e6⟩
        have u0 := e6.cell u0
        have u1 := e6.cell u1
        have u2 := e6.cell u2
        have u3 := e6.cell u3
        have g4 := e6.frozen u4 g4
        have u4 := e6.cell u4
        have f0 := e6.frozen z0 f0
        have f1 := e6.frozen z1 f1
        have f2 := e6.frozen z2 f2
        have f3 := e6.frozen z3 f3
        have f4 := e6.frozen z4 f4
        have z0 := e6.cell z0
        have z1 := e6.cell z1
        have z2 := e6.cell z2
        have z3 := e6.cell z3
        have z4 := e6.cell z4
        obtain ⟨Y, hY⟩ : ∃ Y, Y = w6.setCell ⟨c, 4, none⟩ (.int .i64 h) := ⟨_, rfl⟩
        have e3Y : Ext w3 Y := by
          rw [hY]
          exact @Ext.set _ _ (Ext.trans e3U e6) ⟨c, 4, none⟩ (by rw [hc.out]; exact Nat.le_refl _) _
        have eY : Ext W Y := Ext.trans e13 e3Y
        have ewY : Ext w Y := Ext.trans eW eY
        have u0 : Y.cell? ⟨c, 0, none⟩ = some (.int .i64 q) := by rw [hY]; go_simp
        have u1 : Y.cell? ⟨c, 1, none⟩ = some (.int .i64 z) := by rw [hY]; go_simp
        have u2 : Y.cell? ⟨c, 2, none⟩ = some (.slice (some dP) 0 0) := by rw [hY]; go_simp
        have u3 : Y.cell? ⟨c, 3, none⟩ = some (.slice (some dM) 0 0) := by rw [hY]; go_simp
        have u4 : Y.cell? ⟨c, 4, none⟩ = some (.int .i64 h) := by rw [hY]; go_simp
        have f0 : Y.frozen? ⟨w.heap.size, 0, none⟩ = false := by rw [hY]; go_simp
        have f1 : Y.frozen? ⟨w.heap.size, 1, none⟩ = false := by rw [hY]; go_simp
        have f2 : Y.frozen? ⟨w.heap.size, 2, none⟩ = false := by rw [hY]; go_simp
        have f3 : Y.frozen? ⟨w.heap.size, 3, none⟩ = false := by rw [hY]; go_simp
        have f4 : Y.frozen? ⟨w.heap.size, 4, none⟩ = false := by rw [hY]; go_simp
        have z0 : Y.cell? ⟨w.heap.size, 0, none⟩ = some (.int .i64 0) := by rw [hY]; go_simp
        have z1 : Y.cell? ⟨w.heap.size, 1, none⟩ = some (.int .i64 0) := by rw [hY]; go_simp
        have z2 : Y.cell? ⟨w.heap.size, 2, none⟩ = some (.slice none 0 0) := by rw [hY]; go_simp
        have z3 : Y.cell? ⟨w.heap.size, 3, none⟩ = some (.slice none 0 0) := by rw [hY]; go_simp
        have z4 : Y.cell? ⟨w.heap.size, 4, none⟩ = some (.int .i64 0) := by rw [hY]; go_simp
        go_upto_region 9 with fail
        rw [← hY]
        replace hY := hid hY
        cases o2 with
        | false =>
          have hSx := hid (show ∀ u, Ext Y u → (u.cell? ⟨c, 0, none⟩ = some (.int .i64 q) ∧ u.cell? ⟨c, 1, none⟩ = some (.int .i64 z) ∧ u.cell? ⟨c, 2, none⟩ = some (.slice (some dP) 0 0) ∧ u.cell? ⟨c, 3, none⟩ = some (.slice (some dM) 0 0) ∧ u.cell? ⟨c, 4, none⟩ = some (.int .i64 h)) from fun u e => ⟨e.cell u0, e.cell u1, e.cell u2, e.cell u3, e.cell u4⟩)
          go_upto_region 10 with fail
          refine region_held_from (w0 := Y) (S := fun u => u.cell? ⟨c, 0, none⟩ = some (.int .i64 q) ∧ u.cell? ⟨c, 1, none⟩ = some (.int .i64 z) ∧ u.cell? ⟨c, 2, none⟩ = some (.slice (some dP) 0 0) ∧ u.cell? ⟨c, 3, none⟩ = some (.slice (some dM) 0 0) ∧ u.cell? ⟨c, 4, none⟩ = some (.int .i64 h)) (by kernel_rfl) hSx.out (fun wd ed hHeld0 => ?_)
          refine wpAnyH_take (i := 0) (v := .agg #[.int .i64 q, .int .i64 z, .slice (some dP) 0 0, .slice (some dM) 0 0, .int .i64 h]) rfl (by kernel_rfl) (by kernel_rfl) (by kernel_rfl) (fun _ _ _ h => h) (Or.inl ⟨by rfl, by intro wx hx; obtain ⟨_, _, _, _, _⟩ := hx; go_simp⟩) (by assumption) ?_
          try simp only [List.getElem_toArray, List.getElem_cons_zero, Act.put, List.setIfInBounds_toArray, List.set_cons_zero, List.set_cons_succ]
          refine wpAnyH_take (i := 1) (v := .bool false) rfl (by kernel_rfl) (by kernel_rfl) (by kernel_rfl) (fun _ _ _ h => h) (Or.inl ⟨by rfl, by intro wx hx; go_simp⟩) (by assumption) ?_
          try simp only [List.getElem_toArray, List.getElem_cons_succ, List.getElem_cons_zero, Act.put, List.setIfInBounds_toArray, List.set_cons_zero, List.set_cons_succ]
          refine wpAnyH_take (i := 2) (v := .bool false) rfl (by kernel_rfl) (by kernel_rfl) (by kernel_rfl) (fun _ _ _ h => h) (Or.inl ⟨by rfl, by intro wx hx; go_simp⟩) (by assumption) ?_
          try simp only [List.getElem_toArray, List.getElem_cons_succ, List.getElem_cons_zero, Act.put, List.setIfInBounds_toArray, List.set_cons_zero, List.set_cons_succ]
          refine wpAnyH_take (i := 3) (v := undef) rfl (by kernel_rfl) (by kernel_rfl) (by kernel_rfl) (fun _ _ _ h => h) (Or.inr ⟨by kernel_rfl, rfl⟩) (by assumption) ?_
          try simp only [List.getElem_toArray, List.getElem_cons_succ, List.getElem_cons_zero, Act.put, List.setIfInBounds_toArray, List.set_cons_zero, List.set_cons_succ]
          refine wpAnyH_take (i := 4) (v := undef) rfl (by kernel_rfl) (by kernel_rfl) (by kernel_rfl) (fun _ _ _ h => h) (Or.inr ⟨by kernel_rfl, rfl⟩) (by assumption) ?_
          try simp only [List.getElem_toArray, List.getElem_cons_succ, List.getElem_cons_zero, Act.put, List.setIfInBounds_toArray, List.set_cons_zero, List.set_cons_succ]
          refine wpAnyH_take (i := 5) (v := undef) rfl (by kernel_rfl) (by kernel_rfl) (by kernel_rfl) (fun _ _ _ h => h) (Or.inr ⟨by kernel_rfl, rfl⟩) (by assumption) ?_
          try simp only [List.getElem_toArray, List.getElem_cons_succ, List.getElem_cons_zero, Act.put, List.setIfInBounds_toArray, List.set_cons_zero, List.set_cons_succ]
          refine wpAnyH_take (i := 6) (v := undef) rfl (by kernel_rfl) (by kernel_rfl) (by kernel_rfl) (fun _ _ _ h => h) (Or.inr ⟨by kernel_rfl, rfl⟩) (by assumption) ?_
          try simp only [List.getElem_toArray, List.getElem_cons_succ, List.getElem_cons_zero, Act.put, List.setIfInBounds_toArray, List.set_cons_zero, List.set_cons_succ]
          refine wpAnyH_take (i := 7) (v := undef) rfl (by kernel_rfl) (by kernel_rfl) (by kernel_rfl) (fun _ _ _ h => h) (Or.inr ⟨by kernel_rfl, rfl⟩) (by assumption) ?_
          try simp only [List.getElem_toArray, List.getElem_cons_succ, List.getElem_cons_zero, Act.put, List.setIfInBounds_toArray, List.set_cons_zero, List.set_cons_succ]
          refine wpAnyH_take (i := 8) (v := .bool false) rfl (by kernel_rfl) (by kernel_rfl) (by kernel_rfl) (fun _ _ _ h => h) (Or.inl ⟨by rfl, by intro wx hx; go_simp⟩) (by assumption) ?_
          try simp only [List.getElem_toArray, List.getElem_cons_succ, List.getElem_cons_zero, Act.put, List.setIfInBounds_toArray, List.set_cons_zero, List.set_cons_succ]
          have ewd : Ext w wd := Ext.trans ewY ed
          have e3d : Ext w3 wd := Ext.trans e3Y ed
          have y0 := ed.cell u0
          have y1 := ed.cell u1
          have y2 := ed.cell u2
          have y3 := ed.cell u3
          have y4 := ed.cell u4
          have f0 := ed.frozen z0 f0
          have f1 := ed.frozen z1 f1
          have f2 := ed.frozen z2 f2
          have f3 := ed.frozen z3 f3
          have f4 := ed.frozen z4 f4
          have z0 := ed.cell z0
          have z1 := ed.cell z1
          have z2 := ed.cell z2
          have z3 := ed.cell z3
          have z4 := ed.cell z4
          refine wpAnyH_ready (rs := [9]) (by kernel_rfl) (by simp) ?_
          refine AllReadyH.cons rfl (fun K hK => ?_) AllReadyH.nil
          go_simp
          go_wp2_with fail
          refine hK.out _ _ ⟨by go_simp, by go_simp, by go_simp, by go_simp, by go_simp⟩ (fun _ => ?_)
          clear hK K
          try simp only [List.getElem_toArray, List.getElem_cons_succ, List.getElem_cons_zero, Act.put, List.setIfInBounds_toArray, List.set_cons_zero, List.set_cons_succ]
          refine wpAnyH_take (i := 10) (v := .bool false) rfl (by kernel_rfl) (by kernel_rfl) (by kernel_rfl) (fun _ _ _ h => h) (Or.inl ⟨by rfl, by intro wx hx; go_simp⟩) (by assumption) ?_
          try simp only [List.getElem_toArray, List.getElem_cons_succ, List.getElem_cons_zero, Act.put, List.setIfInBounds_toArray, List.set_cons_zero, List.set_cons_succ]
          refine wpAnyH_done (by kernel_rfl) ?_ _
          go_wp2_with fail
          refine bodyPost_ret (v := .tuple #[.agg #[.int .i64 q, .int .i64 z, .slice (some dP) 0 0, .slice (some dM) 0 0, .int .i64 h], .bool false]) (by simp [results, Tryz.results47, go_sem, z0, z1, z2, z3, z4]) rfl ?_
          refine ⟨dP, dM, (by simp), ?_, ?_⟩
          · have o4 := o3.out.ext (w' := wd)
            exact (((((o4.setBelow (p := ⟨w.heap.size, 0, none⟩) b2 _).setBelow (p := ⟨w.heap.size, 1, none⟩) b2 _).setBelow (p := ⟨w.heap.size, 2, none⟩) b2 _).setBelow (p := ⟨w.heap.size, 3, none⟩) b2 _).setBelow (p := ⟨w.heap.size, 4, none⟩) b2 _).mono (Nat.le_of_lt b2)
          · skip
            refine @Ext.set _ _ (@Ext.set _ _ (@Ext.set _ _ (@Ext.set _ _ (@Ext.set _ _ ewd ⟨w.heap.size, 0, none⟩ (Nat.le_refl _) _) ⟨w.heap.size, 1, none⟩ (Nat.le_refl _) _) ⟨w.heap.size, 2, none⟩ (Nat.le_refl _) _) ⟨w.heap.size, 3, none⟩ (Nat.le_refl _) _) ⟨w.heap.size, 4, none⟩ (Nat.le_refl _) _
        | true =>
          have hSx := hid (show ∀ u, Ext Y u → (u.cell? ⟨c, 0, none⟩ = some (.int .i64 q) ∧ u.cell? ⟨c, 1, none⟩ = some (.int .i64 z) ∧ u.cell? ⟨c, 2, none⟩ = some (.slice (some dP) 0 0) ∧ u.cell? ⟨c, 3, none⟩ = some (.slice (some dM) 0 0) ∧ u.cell? ⟨c, 4, none⟩ = some (.int .i64 h)) from fun u e => ⟨e.cell u0, e.cell u1, e.cell u2, e.cell u3, e.cell u4⟩)
          go_upto_region 10 with fail
          refine region_held_from (w0 := Y) (S := fun u => u.cell? ⟨c, 0, none⟩ = some (.int .i64 q) ∧ u.cell? ⟨c, 1, none⟩ = some (.int .i64 z) ∧ u.cell? ⟨c, 2, none⟩ = some (.slice (some dP) 0 0) ∧ u.cell? ⟨c, 3, none⟩ = some (.slice (some dM) 0 0) ∧ u.cell? ⟨c, 4, none⟩ = some (.int .i64 h)) (by kernel_rfl) hSx.out (fun wd ed hHeld0 => ?_)
          refine wpAnyH_take (i := 0) (v := .agg #[.int .i64 q, .int .i64 z, .slice (some dP) 0 0, .slice (some dM) 0 0, .int .i64 h]) rfl (by kernel_rfl) (by kernel_rfl) (by kernel_rfl) (fun _ _ _ h => h) (Or.inl ⟨by rfl, by intro wx hx; obtain ⟨_, _, _, _, _⟩ := hx; go_simp⟩) (by assumption) ?_
          try simp only [List.getElem_toArray, List.getElem_cons_zero, Act.put, List.setIfInBounds_toArray, List.set_cons_zero, List.set_cons_succ]
          refine wpAnyH_take (i := 1) (v := .bool true) rfl (by kernel_rfl) (by kernel_rfl) (by kernel_rfl) (fun _ _ _ h => h) (Or.inl ⟨by rfl, by intro wx hx; go_simp⟩) (by assumption) ?_
          try simp only [List.getElem_toArray, List.getElem_cons_succ, List.getElem_cons_zero, Act.put, List.setIfInBounds_toArray, List.set_cons_zero, List.set_cons_succ]
          refine wpAnyH_take (i := 2) (v := .bool true) rfl (by kernel_rfl) (by kernel_rfl) (by kernel_rfl) (fun _ _ _ h => h) (Or.inl ⟨by rfl, by intro wx hx; go_simp⟩) (by assumption) ?_
          try simp only [List.getElem_toArray, List.getElem_cons_succ, List.getElem_cons_zero, Act.put, List.setIfInBounds_toArray, List.set_cons_zero, List.set_cons_succ]
          refine wpAnyH_take (i := 3) (v := .bool true) rfl (by kernel_rfl) (by kernel_rfl) (by kernel_rfl) (fun _ _ _ h => h) (Or.inl ⟨by rfl, by intro wx hx; go_simp⟩) (by assumption) ?_
          try simp only [List.getElem_toArray, List.getElem_cons_succ, List.getElem_cons_zero, Act.put, List.setIfInBounds_toArray, List.set_cons_zero, List.set_cons_succ]
          refine wpAnyH_take (i := 4) (v := .pointer (some ⟨c, 0, none⟩)) rfl (by kernel_rfl) (by kernel_rfl) (by kernel_rfl) (fun _ _ _ h => h) (Or.inl ⟨by rfl, by intro wx hx; go_simp⟩) (by assumption) ?_
          try simp only [List.getElem_toArray, List.getElem_cons_succ, List.getElem_cons_zero, Act.put, List.setIfInBounds_toArray, List.set_cons_zero, List.set_cons_succ]
          refine wpAnyH_take (i := 5) (v := .int .i64 q) rfl (by kernel_rfl) (by kernel_rfl) (by kernel_rfl) (fun _ _ _ h => h) (Or.inl ⟨by rfl, by intro wx hx; obtain ⟨_, _, _, _, _⟩ := hx; go_simp⟩) (by assumption) ?_
          try simp only [List.getElem_toArray, List.getElem_cons_succ, List.getElem_cons_zero, Act.put, List.setIfInBounds_toArray, List.set_cons_zero, List.set_cons_succ]
          refine wpAnyH_take (i := 6) (v := .bool false) rfl (by kernel_rfl) (by kernel_rfl) (by kernel_rfl) (fun _ _ _ h => h) (Or.inl ⟨by rfl, by intro wx hx; go_simp⟩) (by assumption) ?_
          try simp only [List.getElem_toArray, List.getElem_cons_succ, List.getElem_cons_zero, Act.put, List.setIfInBounds_toArray, List.set_cons_zero, List.set_cons_succ]
          refine wpAnyH_take (i := 7) (v := .bool false) rfl (by kernel_rfl) (by kernel_rfl) (by kernel_rfl) (fun _ _ _ h => h) (Or.inl ⟨by rfl, by intro wx hx; go_simp⟩) (by assumption) ?_
          try simp only [List.getElem_toArray, List.getElem_cons_succ, List.getElem_cons_zero, Act.put, List.setIfInBounds_toArray, List.set_cons_zero, List.set_cons_succ]
          refine wpAnyH_take (i := 8) (v := .bool false) rfl (by kernel_rfl) (by kernel_rfl) (by kernel_rfl) (fun _ _ _ h => h) (Or.inl ⟨by rfl, by intro wx hx; go_simp⟩) (by assumption) ?_
          try simp only [List.getElem_toArray, List.getElem_cons_succ, List.getElem_cons_zero, Act.put, List.setIfInBounds_toArray, List.set_cons_zero, List.set_cons_succ]
          have ewd : Ext w wd := Ext.trans ewY ed
          have e3d : Ext w3 wd := Ext.trans e3Y ed
          have y0 := ed.cell u0
          have y1 := ed.cell u1
          have y2 := ed.cell u2
          have y3 := ed.cell u3
          have y4 := ed.cell u4
          have f0 := ed.frozen z0 f0
          have f1 := ed.frozen z1 f1
          have f2 := ed.frozen z2 f2
          have f3 := ed.frozen z3 f3
          have f4 := ed.frozen z4 f4
          have z0 := ed.cell z0
          have z1 := ed.cell z1
          have z2 := ed.cell z2
          have z3 := ed.cell z3
          have z4 := ed.cell z4
          refine wpAnyH_ready (rs := [9]) (by kernel_rfl) (by simp) ?_
          refine AllReadyH.cons rfl (fun K hK => ?_) AllReadyH.nil
          go_simp
          go_wp2_with fail
          refine hK.out _ _ ⟨by go_simp, by go_simp, by go_simp, by go_simp, by go_simp⟩ (fun _ => ?_)
          clear hK K
          try simp only [List.getElem_toArray, List.getElem_cons_succ, List.getElem_cons_zero, Act.put, List.setIfInBounds_toArray, List.set_cons_zero, List.set_cons_succ]
          refine wpAnyH_take (i := 10) (v := .bool false) rfl (by kernel_rfl) (by kernel_rfl) (by kernel_rfl) (fun _ _ _ h => h) (Or.inl ⟨by rfl, by intro wx hx; go_simp⟩) (by assumption) ?_
          try simp only [List.getElem_toArray, List.getElem_cons_succ, List.getElem_cons_zero, Act.put, List.setIfInBounds_toArray, List.set_cons_zero, List.set_cons_succ]
          refine wpAnyH_done (by kernel_rfl) ?_ _
          go_wp2_with fail
          refine bodyPost_ret (v := .tuple #[.agg #[.int .i64 q, .int .i64 z, .slice (some dP) 0 0, .slice (some dM) 0 0, .int .i64 h], .bool false]) (by simp [results, Tryz.results47, go_sem, z0, z1, z2, z3, z4]) rfl ?_
          refine ⟨dP, dM, (by simp), ?_, ?_⟩
          · have o4 := o3.out.ext (w' := wd)
            exact (((((o4.setBelow (p := ⟨w.heap.size, 0, none⟩) b2 _).setBelow (p := ⟨w.heap.size, 1, none⟩) b2 _).setBelow (p := ⟨w.heap.size, 2, none⟩) b2 _).setBelow (p := ⟨w.heap.size, 3, none⟩) b2 _).setBelow (p := ⟨w.heap.size, 4, none⟩) b2 _).mono (Nat.le_of_lt b2)
          · skip
            refine @Ext.set _ _ (@Ext.set _ _ (@Ext.set _ _ (@Ext.set _ _ (@Ext.set _ _ ewd ⟨w.heap.size, 0, none⟩ (Nat.le_refl _) _) ⟨w.heap.size, 1, none⟩ (Nat.le_refl _) _) ⟨w.heap.size, 2, none⟩ (Nat.le_refl _) _) ⟨w.heap.size, 3, none⟩ (Nat.le_refl _) _) ⟨w.heap.size, 4, none⟩ (Nat.le_refl _) _
end Go.Proofs.YtaphnkgjcmneoaaGreatDoor
