/- Caches walked: NewCache of both sides; the reference's names, marks. -/
import Derived.Test.YtaphnkgjcmneoaaGreatDoorCin
import Derived.Test.YtaphnkgjcmneoaaGreatDoorPackB
namespace Go.Proofs.YtaphnkgjcmneoaaGreatDoor
open Go.RowKit

theorem l4Marked_any (p : Int) (w : World) : Calls Tryz.prog 50 #[.int .i64 p] w fun e w' => e = .returned (.bool (mkd p)) ∧ w = w' := by
  by_cases h5 : p = 5
  · have hr := hid (show mkd p = true by rw [h5]; rfl)
    have h5' : (p == 5) = true := beq_iff_eq.2 h5
    replace h5 := hid h5
    go_enter Tryz.func50, Tryz.ntmps50
    go_wp2_with fail
    go_ret
    exact ⟨ret_bool hr.out.symm, rfl⟩
  · have h5' : (p == 5) = false := beq_eq_false_iff_ne.2 h5
    have hr := hid (show (p == 6) = mkd p by unfold mkd; rw [h5']; rfl)
    replace h5 := hid h5
    go_enter Tryz.func50, Tryz.ntmps50
    go_wp2_with fail
    go_ret
    exact ⟨ret_bool hr.out, rfl⟩
theorem l4Sizes_any (p z : Int) (w : World) : Calls Tryz.prog 54 #[.int .i64 p, .int .i64 z] w fun e w' => e = .returned (.bool (inB p 1 7 && inB z 1 6)) ∧ w = w' := by
  cases hp : inB p 1 7 with
  | false =>
    replace hp := hid hp
    go_enter Tryz.func54, Tryz.ntmps54
    go_wp2_with fail
    refine (l1In_any _ _ _ _).mono ?_; rw [hp.out]; rintro e w1 ⟨rfl, rfl⟩
    go_wp2_with fail
    go_ret
    exact ⟨rfl, rfl⟩
  | true =>
    replace hp := hid hp
    go_enter Tryz.func54, Tryz.ntmps54
    go_wp2_with fail
    refine (l1In_any _ _ _ _).mono ?_; rw [hp.out]; rintro e w1 ⟨rfl, rfl⟩
    go_wp2_with fail
    refine (l1In_any _ _ _ _).mono ?_; rintro e w1 ⟨rfl, rfl⟩
    go_wp2_with fail
    go_ret
    exact ⟨rfl, rfl⟩
/-- what NewCache accepts -/
def ncB (n p z : Int) : Bool := inB n 1 8 && (inB p 1 7 && inB z 1 6)
/-- the value of a new cache -/
def ncV (n p z : Int) : Int × Int := if ncB n p z then (p, z) else (0, 0)
def NcPost (n p z : Int) (w : World) : Ending → World → Prop := fun e w' => ∃ dP dM cP cM, e = .returned (.tuple #[.agg #[.int .i64 (ncV n p z).1, .int .i64 (ncV n p z).2, .slice dP 0 cP, .slice dM 0 cM, .int .i64 0], .bool (ncB n p z)]) ∧ Ext w w'
set_option maxHeartbeats 1600000 in
theorem implNc_any (n p z : Int) (w : World) : Calls Tryz.prog 16 #[.int .i64 n, .int .i64 p, .int .i64 z] w (NcPost n p z w) := by
  obtain ⟨W, hW⟩ : ∃ W, W = w.alloc (.cells #[.int .i64 0, .int .i64 0, .slice none 0 0, .slice none 0 0, .int .i64 0] 26) := ⟨_, rfl⟩
  have eW : Ext w W := by rw [hW]; infer_instance
  have z0 : W.cell? ⟨w.heap.size, 0, none⟩ = some (.int .i64 0) := by rw [hW]; go_simp
  have z1 : W.cell? ⟨w.heap.size, 1, none⟩ = some (.int .i64 0) := by rw [hW]; go_simp
  have z2 : W.cell? ⟨w.heap.size, 2, none⟩ = some (.slice none 0 0) := by rw [hW]; go_simp
  have z3 : W.cell? ⟨w.heap.size, 3, none⟩ = some (.slice none 0 0) := by rw [hW]; go_simp
  have z4 : W.cell? ⟨w.heap.size, 4, none⟩ = some (.int .i64 0) := by rw [hW]; go_simp
  have f0 : W.frozen? ⟨w.heap.size, 0, none⟩ = false := by rw [hW]; go_simp
  have f1 : W.frozen? ⟨w.heap.size, 1, none⟩ = false := by rw [hW]; go_simp
  have f2 : W.frozen? ⟨w.heap.size, 2, none⟩ = false := by rw [hW]; go_simp
  have f3 : W.frozen? ⟨w.heap.size, 3, none⟩ = false := by rw [hW]; go_simp
  have f4 : W.frozen? ⟨w.heap.size, 4, none⟩ = false := by rw [hW]; go_simp
  go_enter Tryz.func16, Tryz.ntmps16
  go_upto_region 1 with fail
  rw [← hW]
  replace hW := hid hW
  cases hn : inB n 1 8 with
  | false =>
    have hV : ncV n p z = (0, 0) ∧ ncB n p z = false := by unfold ncV ncB; rw [hn]; exact ⟨rfl, rfl⟩
    replace hn := hid hn
    go_wp2_with fail
    refine (isItems_any _ _).mono ?_; rw [hn.out]; rintro e w1 ⟨rfl, rfl⟩
    replace hV := hid hV
    go_wp2_with fail
    refine bodyPost_ret (v := .tuple #[.agg #[.int .i64 0, .int .i64 0, .slice none 0 0, .slice none 0 0, .int .i64 0], .bool false]) (by simp [results, Tryz.results16, go_sem, z0, z1, z2, z3, z4]) rfl ?_
    refine ⟨none, none, 0, 0, by rw [hV.out.1, hV.out.2], ?_⟩
    refine @Ext.set _ _ (@Ext.set _ _ (@Ext.set _ _ (@Ext.set _ _ (@Ext.set _ _ eW ⟨w.heap.size, 0, none⟩ (Nat.le_refl _) _) ⟨w.heap.size, 1, none⟩ (Nat.le_refl _) _) ⟨w.heap.size, 2, none⟩ (Nat.le_refl _) _) ⟨w.heap.size, 3, none⟩ (Nat.le_refl _) _) ⟨w.heap.size, 4, none⟩ (Nat.le_refl _) _
  | true =>
    cases hp : inB p 1 7 with
    | false =>
      have hV : ncV n p z = (0, 0) ∧ ncB n p z = false := by unfold ncV ncB; rw [hn, hp]; exact ⟨rfl, rfl⟩
      replace hn := hid hn
      replace hp := hid hp
      go_wp2_with fail
      refine (isItems_any _ _).mono ?_; rw [hn.out]; rintro e w1 ⟨rfl, rfl⟩
      go_wp2_with fail
      refine (isPol_any _ _).mono ?_; rw [hp.out]; rintro e w1 ⟨rfl, rfl⟩
      replace hV := hid hV
      go_wp2_with fail
      refine bodyPost_ret (v := .tuple #[.agg #[.int .i64 0, .int .i64 0, .slice none 0 0, .slice none 0 0, .int .i64 0], .bool false]) (by simp [results, Tryz.results16, go_sem, z0, z1, z2, z3, z4]) rfl ?_
      refine ⟨none, none, 0, 0, by rw [hV.out.1, hV.out.2], ?_⟩
      refine @Ext.set _ _ (@Ext.set _ _ (@Ext.set _ _ (@Ext.set _ _ (@Ext.set _ _ eW ⟨w.heap.size, 0, none⟩ (Nat.le_refl _) _) ⟨w.heap.size, 1, none⟩ (Nat.le_refl _) _) ⟨w.heap.size, 2, none⟩ (Nat.le_refl _) _) ⟨w.heap.size, 3, none⟩ (Nat.le_refl _) _) ⟨w.heap.size, 4, none⟩ (Nat.le_refl _) _
    | true =>
      cases hz : inB z 1 6 with
      | false =>
        have hV : ncV n p z = (0, 0) ∧ ncB n p z = false := by unfold ncV ncB; rw [hn, hp, hz]; exact ⟨rfl, rfl⟩
        replace hn := hid hn
        replace hp := hid hp
        replace hz := hid hz
        go_wp2_with fail
        refine (isItems_any _ _).mono ?_; rw [hn.out]; rintro e w1 ⟨rfl, rfl⟩
        go_wp2_with fail
        refine (isPol_any _ _).mono ?_; rw [hp.out]; rintro e w1 ⟨rfl, rfl⟩
        go_wp2_with fail
        refine (isSize_any _ _).mono ?_; rw [hz.out]; rintro e w1 ⟨rfl, rfl⟩
        replace hV := hid hV
        go_wp2_with fail
        refine bodyPost_ret (v := .tuple #[.agg #[.int .i64 0, .int .i64 0, .slice none 0 0, .slice none 0 0, .int .i64 0], .bool false]) (by simp [results, Tryz.results16, go_sem, z0, z1, z2, z3, z4]) rfl ?_
        refine ⟨none, none, 0, 0, by rw [hV.out.1, hV.out.2], ?_⟩
        refine @Ext.set _ _ (@Ext.set _ _ (@Ext.set _ _ (@Ext.set _ _ (@Ext.set _ _ eW ⟨w.heap.size, 0, none⟩ (Nat.le_refl _) _) ⟨w.heap.size, 1, none⟩ (Nat.le_refl _) _) ⟨w.heap.size, 2, none⟩ (Nat.le_refl _) _) ⟨w.heap.size, 3, none⟩ (Nat.le_refl _) _) ⟨w.heap.size, 4, none⟩ (Nat.le_refl _) _
      | true =>
        have hV : ncV n p z = (p, z) ∧ ncB n p z = true := by unfold ncV ncB; rw [hn, hp, hz]; exact ⟨rfl, rfl⟩
        replace hn := hid hn
        replace hp := hid hp
        replace hz := hid hz
        replace hV := hid hV
        go_wp2_with fail
        refine (isItems_any _ _).mono ?_; rw [hn.out]; rintro e w1 ⟨rfl, rfl⟩
        go_wp2_with fail
        refine (isPol_any _ _).mono ?_; rw [hp.out]; rintro e w1 ⟨rfl, rfl⟩
        go_wp2_with fail
        refine (isSize_any _ _).mono ?_; rw [hz.out]; rintro e w1 ⟨rfl, rfl⟩
        go_wp2_with fail
        refine bodyPost_ret (v := .tuple #[.agg #[.int .i64 p, .int .i64 z, .slice none 0 0, .slice none 0 0, .int .i64 0], .bool true]) (by simp [results, Tryz.results16, go_sem, z0, z1, z2, z3, z4]) rfl ?_
        refine ⟨none, none, 0, 0, by rw [hV.out.1, hV.out.2], ?_⟩
        refine @Ext.set _ _ (@Ext.set _ _ (@Ext.set _ _ (@Ext.set _ _ (@Ext.set _ _ eW ⟨w.heap.size, 0, none⟩ (Nat.le_refl _) _) ⟨w.heap.size, 1, none⟩ (Nat.le_refl _) _) ⟨w.heap.size, 2, none⟩ (Nat.le_refl _) _) ⟨w.heap.size, 3, none⟩ (Nat.le_refl _) _) ⟨w.heap.size, 4, none⟩ (Nat.le_refl _) _
def L4New (p z : Int) (w : World) : Ending → World → Prop := fun e w' => ∃ dP dM, e = .returned (.agg #[.int .i64 p, .int .i64 z, .slice (some dP) 0 0, .slice (some dM) 0 0, .int .i64 0]) ∧ Own w' w.heap.size [intRowOf 3 (.slice (some dP) 0 0) [], intRowOf 3 (.slice (some dM) 0 0) []] ∧ Ext w w'
set_option maxHeartbeats 1600000 in
theorem l4New_any (p z : Int) (w : World) : Calls Tryz.prog 42 #[.int .i64 p, .int .i64 z] w (L4New p z w) := by
  obtain ⟨W, hW⟩ : ∃ W, W = w.alloc (.cells #[.int .i64 0, .int .i64 0, .slice none 0 0, .slice none 0 0, .int .i64 0] 26) := ⟨_, rfl⟩
  have eW : Ext w W := by rw [hW]; infer_instance
  have z0 : W.cell? ⟨w.heap.size, 0, none⟩ = some (.int .i64 0) := by rw [hW]; go_simp
  have z1 : W.cell? ⟨w.heap.size, 1, none⟩ = some (.int .i64 0) := by rw [hW]; go_simp
  have z2 : W.cell? ⟨w.heap.size, 2, none⟩ = some (.slice none 0 0) := by rw [hW]; go_simp
  have z3 : W.cell? ⟨w.heap.size, 3, none⟩ = some (.slice none 0 0) := by rw [hW]; go_simp
  have z4 : W.cell? ⟨w.heap.size, 4, none⟩ = some (.int .i64 0) := by rw [hW]; go_simp
  have f0 : W.frozen? ⟨w.heap.size, 0, none⟩ = false := by rw [hW]; go_simp
  have f1 : W.frozen? ⟨w.heap.size, 1, none⟩ = false := by rw [hW]; go_simp
  have f2 : W.frozen? ⟨w.heap.size, 2, none⟩ = false := by rw [hW]; go_simp
  have f3 : W.frozen? ⟨w.heap.size, 3, none⟩ = false := by rw [hW]; go_simp
  have f4 : W.frozen? ⟨w.heap.size, 4, none⟩ = false := by rw [hW]; go_simp
  have hWs := hid (show W.heap.size = w.heap.size + 1 by rw [hW]; go_simp)
  go_enter Tryz.func42, Tryz.ntmps42
  go_upto_region 1 with fail
  rw [← hW]
  replace hW := hid hW
  have hs2 : (W.alloc (.cells #[] 3)).heap.size = W.heap.size + 1 := by go_simp
  have o1 := Own.lit (w := W.alloc (.cells #[] 3)) (Own.lit (w := W) (Own.nil W (w.heap.size + 1)) 3 1 0 #[] (by rw [hWs.out]; exact Nat.le_refl _) (by unfold maxLen; omega) rfl) 3 1 0 #[] (by rw [hs2, hWs.out]; omega) (by unfold maxLen; omega) rfl
  rw [hs2] at o1
  have eV : Ext w ((W.alloc (.cells #[] 3)).alloc (.cells #[] 3)) := @Ext.trans _ W _ eW inferInstance
  have eU : Ext W ((W.alloc (.cells #[] 3)).alloc (.cells #[] 3)) := inferInstance
  have f0 := eU.frozen z0 f0
  have f1 := eU.frozen z1 f1
  have f2 := eU.frozen z2 f2
  have f3 := eU.frozen z3 f3
  have f4 := eU.frozen z4 f4
  have z0 := eU.cell z0
  have z1 := eU.cell z1
  have z2 := eU.cell z2
  have z3 := eU.cell z3
  have z4 := eU.cell z4
  go_wp2_with fail
  refine bodyPost_ret (v := .agg #[.int .i64 p, .int .i64 z, .slice (some ⟨W.heap.size, 0, none⟩) 0 0, .slice (some ⟨W.heap.size + 1, 0, none⟩) 0 0, .int .i64 0]) (by simp [results, Tryz.results42, go_sem, z0, z1, z2, z3, z4]) rfl ?_
  refine ⟨_, _, rfl, ?_, ?_⟩
  · exact ((((((o1.perm (List.Perm.swap _ _ _)).setBelow (p := ⟨w.heap.size, 0, none⟩) (Nat.lt_succ_self _) _).setBelow (p := ⟨w.heap.size, 1, none⟩) (Nat.lt_succ_self _) _).setBelow (p := ⟨w.heap.size, 2, none⟩) (Nat.lt_succ_self _) _).setBelow (p := ⟨w.heap.size, 3, none⟩) (Nat.lt_succ_self _) _).setBelow (p := ⟨w.heap.size, 4, none⟩) (Nat.lt_succ_self _) _).mono (Nat.le_succ _)
  · skip
    refine @Ext.set _ _ (@Ext.set _ _ (@Ext.set _ _ (@Ext.set _ _ (@Ext.set _ _ eV ⟨w.heap.size, 0, none⟩ (Nat.le_refl _) _) ⟨w.heap.size, 1, none⟩ (Nat.le_refl _) _) ⟨w.heap.size, 2, none⟩ (Nat.le_refl _) _) ⟨w.heap.size, 3, none⟩ (Nat.le_refl _) _) ⟨w.heap.size, 4, none⟩ (Nat.le_refl _) _
set_option maxHeartbeats 1600000 in
theorem specNc_any (n p z : Int) (w : World) : Calls Tryz.prog 17 #[.int .i64 n, .int .i64 p, .int .i64 z] w (NcPost n p z w) := by
  obtain ⟨W, hW⟩ : ∃ W, W = w.alloc (.cells #[.int .i64 0, .int .i64 0, .slice none 0 0, .slice none 0 0, .int .i64 0] 26) := ⟨_, rfl⟩
  have eW : Ext w W := by rw [hW]; infer_instance
  have z0 : W.cell? ⟨w.heap.size, 0, none⟩ = some (.int .i64 0) := by rw [hW]; go_simp
  have z1 : W.cell? ⟨w.heap.size, 1, none⟩ = some (.int .i64 0) := by rw [hW]; go_simp
  have z2 : W.cell? ⟨w.heap.size, 2, none⟩ = some (.slice none 0 0) := by rw [hW]; go_simp
  have z3 : W.cell? ⟨w.heap.size, 3, none⟩ = some (.slice none 0 0) := by rw [hW]; go_simp
  have z4 : W.cell? ⟨w.heap.size, 4, none⟩ = some (.int .i64 0) := by rw [hW]; go_simp
  have f0 : W.frozen? ⟨w.heap.size, 0, none⟩ = false := by rw [hW]; go_simp
  have f1 : W.frozen? ⟨w.heap.size, 1, none⟩ = false := by rw [hW]; go_simp
  have f2 : W.frozen? ⟨w.heap.size, 2, none⟩ = false := by rw [hW]; go_simp
  have f3 : W.frozen? ⟨w.heap.size, 3, none⟩ = false := by rw [hW]; go_simp
  have f4 : W.frozen? ⟨w.heap.size, 4, none⟩ = false := by rw [hW]; go_simp
  go_enter Tryz.func17, Tryz.ntmps17
  go_upto_region 1 with fail
  rw [← hW]
  replace hW := hid hW
  cases hn : inB n 1 8 with
  | false =>
    have hV : ncV n p z = (0, 0) ∧ ncB n p z = false := by unfold ncV ncB; rw [hn]; exact ⟨rfl, rfl⟩
    replace hn := hid hn
    go_wp2_with fail
    refine (l3Items_any _ _).mono ?_; rw [hn.out]; rintro e w1 ⟨rfl, rfl⟩
    replace hV := hid hV
    go_wp2_with fail
    refine bodyPost_ret (v := .tuple #[.agg #[.int .i64 0, .int .i64 0, .slice none 0 0, .slice none 0 0, .int .i64 0], .bool false]) (by simp [results, Tryz.results17, go_sem, z0, z1, z2, z3, z4]) rfl ?_
    refine ⟨none, none, 0, 0, by rw [hV.out.1, hV.out.2], ?_⟩
    refine @Ext.set _ _ (@Ext.set _ _ (@Ext.set _ _ (@Ext.set _ _ (@Ext.set _ _ eW ⟨w.heap.size, 0, none⟩ (Nat.le_refl _) _) ⟨w.heap.size, 1, none⟩ (Nat.le_refl _) _) ⟨w.heap.size, 2, none⟩ (Nat.le_refl _) _) ⟨w.heap.size, 3, none⟩ (Nat.le_refl _) _) ⟨w.heap.size, 4, none⟩ (Nat.le_refl _) _
  | true =>
    cases hp : (inB p 1 7 && inB z 1 6) with
    | false =>
      have hV : ncV n p z = (0, 0) ∧ ncB n p z = false := by unfold ncV ncB; rw [hn, hp]; exact ⟨rfl, rfl⟩
      replace hn := hid hn
      replace hp := hid hp
      go_wp2_with fail
      refine (l3Items_any _ _).mono ?_; rw [hn.out]; rintro e w1 ⟨rfl, rfl⟩
      go_wp2_with fail
      refine (l4Sizes_any _ _ _).mono ?_; rw [hp.out]; rintro e w1 ⟨rfl, rfl⟩
      replace hV := hid hV
      go_wp2_with fail
      refine bodyPost_ret (v := .tuple #[.agg #[.int .i64 0, .int .i64 0, .slice none 0 0, .slice none 0 0, .int .i64 0], .bool false]) (by simp [results, Tryz.results17, go_sem, z0, z1, z2, z3, z4]) rfl ?_
      refine ⟨none, none, 0, 0, by rw [hV.out.1, hV.out.2], ?_⟩
      refine @Ext.set _ _ (@Ext.set _ _ (@Ext.set _ _ (@Ext.set _ _ (@Ext.set _ _ eW ⟨w.heap.size, 0, none⟩ (Nat.le_refl _) _) ⟨w.heap.size, 1, none⟩ (Nat.le_refl _) _) ⟨w.heap.size, 2, none⟩ (Nat.le_refl _) _) ⟨w.heap.size, 3, none⟩ (Nat.le_refl _) _) ⟨w.heap.size, 4, none⟩ (Nat.le_refl _) _
    | true =>
      have hV : ncV n p z = (p, z) ∧ ncB n p z = true := by unfold ncV ncB; rw [hn, hp]; exact ⟨rfl, rfl⟩
      replace hn := hid hn
      replace hp := hid hp
      replace hV := hid hV
      go_wp2_with fail
      refine (l3Items_any _ _).mono ?_; rw [hn.out]; rintro e w1 ⟨rfl, rfl⟩
      go_wp2_with fail
      refine (l4Sizes_any _ _ _).mono ?_; rw [hp.out]; rintro e w1 ⟨rfl, rfl⟩
      go_wp2_with fail
      refine (l4New_any _ _ _).mono ?_
      rintro e w2 ⟨dP, dM, rfl, own2, e2⟩
      clear own2
      have g0 := e2.frozen z0 f0
      have g1 := e2.frozen z1 f1
      have g2 := e2.frozen z2 f2
      have g3 := e2.frozen z3 f3
      have g4 := e2.frozen z4 f4
      have z0 := e2.cell z0
      have z1 := e2.cell z1
      have z2 := e2.cell z2
      have z3 := e2.cell z3
      have z4 := e2.cell z4
      have eV := Ext.trans eW e2
      go_wp2_with fail
      refine bodyPost_ret (v := .tuple #[.agg #[.int .i64 p, .int .i64 z, .slice (some dP) 0 0, .slice (some dM) 0 0, .int .i64 0], .bool true]) (by simp [results, Tryz.results17, go_sem, z0, z1, z2, z3, z4]) rfl ?_
      refine ⟨some dP, some dM, 0, 0, by rw [hV.out.1, hV.out.2], ?_⟩
      refine @Ext.set _ _ (@Ext.set _ _ (@Ext.set _ _ (@Ext.set _ _ (@Ext.set _ _ eV ⟨w.heap.size, 0, none⟩ (Nat.le_refl _) _) ⟨w.heap.size, 1, none⟩ (Nat.le_refl _) _) ⟨w.heap.size, 2, none⟩ (Nat.le_refl _) _) ⟨w.heap.size, 3, none⟩ (Nat.le_refl _) _) ⟨w.heap.size, 4, none⟩ (Nat.le_refl _) _
end Go.Proofs.YtaphnkgjcmneoaaGreatDoor
