/- CacheText of both. -/
import Derived.Test.YtaphnkgjcmneoaaGreatDoorCix
import Derived.Test.YtaphnkgjcmneoaaGreatDoorCis
import Derived.Test.YtaphnkgjcmneoaaGreatDoorCig
namespace Go.Proofs.YtaphnkgjcmneoaaGreatDoor
open Go.RowKit

/-- the text that CacheText hands over -/
def ctL (n p z : Int) (P M : List Int) (h : Int) : List UInt8 := if caB n p z P M h then caL p z P M h else []
theorem implCt_any {n p z h : Int} {P M : List Int} {dP dM : Option Addr} {cP cM : Nat} {w0 w : World} [Ext w0 w] (hP : IsInts w0 (.slice dP P.length cP) P) (hM : IsInts w0 (.slice dM M.length cM) M) (ht : Tens w) (hmo : Most w) :
    Calls Tryz.prog 6 #[.int .i64 n, .agg #[.int .i64 p, .int .i64 z, .slice dP P.length cP, .slice dM M.length cM, .int .i64 h]] w fun e w' => e = .returned (.tuple #[.string (bsOf (ctL n p z P M h)), .bool (caB n p z P M h)]) ∧ Ext w w' := by
  replace ht := hid ht
  replace hmo := hid hmo
  cases hc : caB n p z P M h with
  | false =>
    have hI := hid (fun (u : World) (e : Ext w0 u) => @isCache_any n p z h P M dP dM cP cM w0 u e hP hM)
    rw [hc] at hI
    rw [show ctL n p z P M h = [] by unfold ctL; rw [hc]; rfl]
    obtain ⟨W, hW⟩ : ∃ W, W = w.alloc (.cells #[.int .i64 p, .int .i64 z, .slice dP P.length cP, .slice dM M.length cM, .int .i64 h] 26) := ⟨_, rfl⟩
    have eW : Ext w W := by rw [hW]; infer_instance
    have x0 : W.cell? ⟨w.heap.size, 0, none⟩ = some (.int .i64 p) := by rw [hW]; go_simp
    have x1 : W.cell? ⟨w.heap.size, 1, none⟩ = some (.int .i64 z) := by rw [hW]; go_simp
    have x2 : W.cell? ⟨w.heap.size, 2, none⟩ = some (.slice dP P.length cP) := by rw [hW]; go_simp
    have x3 : W.cell? ⟨w.heap.size, 3, none⟩ = some (.slice dM M.length cM) := by rw [hW]; go_simp
    have x4 : W.cell? ⟨w.heap.size, 4, none⟩ = some (.int .i64 h) := by rw [hW]; go_simp
    go_enter Tryz.func6, Tryz.ntmps6
    go_upto_region 1 with fail
    rw [← hW]
    replace hW := hid hW
    have e0W : Ext w0 W := Ext.trans ‹Ext w0 w› eW
    go_wp2_with fail
    with_reducible refine (hI.out _ inferInstance).mono ?_
    rintro e w2 ⟨rfl, e2⟩
    go_wp2_with fail
    go_ret2
    exact ⟨rfl, Ext.trans eW e2⟩
  | true =>
    have hI := hid (fun (u : World) (e : Ext w0 u) => @isCache_any n p z h P M dP dM cP cM w0 u e hP hM)
    rw [hc] at hI
    have hT := hid (fun (u : World) (e : Ext w0 u) (h1 : Tens u) (h2 : Most u) => @caText_any n p z h P M dP dM cP cM w0 u e hP hM hc h1 h2)
    rw [show ctL n p z P M h = caL p z P M h by unfold ctL; rw [hc]; rfl]
    obtain ⟨S, hS⟩ : ∃ S, S = bsOf (caL p z P M h) := ⟨_, rfl⟩
    rw [← hS] at hT ⊢
    replace hS := hid hS
    obtain ⟨W, hW⟩ : ∃ W, W = w.alloc (.cells #[.int .i64 p, .int .i64 z, .slice dP P.length cP, .slice dM M.length cM, .int .i64 h] 26) := ⟨_, rfl⟩
    have eW : Ext w W := by rw [hW]; infer_instance
    have x0 : W.cell? ⟨w.heap.size, 0, none⟩ = some (.int .i64 p) := by rw [hW]; go_simp
    have x1 : W.cell? ⟨w.heap.size, 1, none⟩ = some (.int .i64 z) := by rw [hW]; go_simp
    have x2 : W.cell? ⟨w.heap.size, 2, none⟩ = some (.slice dP P.length cP) := by rw [hW]; go_simp
    have x3 : W.cell? ⟨w.heap.size, 3, none⟩ = some (.slice dM M.length cM) := by rw [hW]; go_simp
    have x4 : W.cell? ⟨w.heap.size, 4, none⟩ = some (.int .i64 h) := by rw [hW]; go_simp
    go_enter Tryz.func6, Tryz.ntmps6
    go_upto_region 1 with fail
    rw [← hW]
    replace hW := hid hW
    have e0W : Ext w0 W := Ext.trans ‹Ext w0 w› eW
    go_wp2_with fail
    with_reducible refine (hI.out _ inferInstance).mono ?_
    rintro e w2 ⟨rfl, e2⟩
    have x0 := e2.cell x0
    have x1 := e2.cell x1
    have x2 := e2.cell x2
    have x3 := e2.cell x3
    have x4 := e2.cell x4
    have e02 := Ext.trans e0W e2
    have eww := Ext.trans eW e2
    go_wp2_with fail
    with_reducible refine (hT.out w2 inferInstance (ht.out.ext (w' := w2)) (hmo.out.ext (w' := w2))).mono ?_
    rintro e w3 ⟨rfl, e3⟩
    go_wp2_with fail
    go_ret2
    exact ⟨rfl, Ext.trans eW (Ext.trans e2 e3)⟩
theorem specCt_any {n p z h : Int} {P M : List Int} {dP dM : Option Addr} {cP cM : Nat} {w0 w : World} [Ext w0 w] (hP : IsInts w0 (.slice dP P.length cP) P) (hM : IsInts w0 (.slice dM M.length cM) M) (hPl : P.length ≤ 100000) :
    Calls Tryz.prog 7 #[.int .i64 n, .agg #[.int .i64 p, .int .i64 z, .slice dP P.length cP, .slice dM M.length cM, .int .i64 h]] w fun e w' => e = .returned (.tuple #[.string (bsOf (ctL n p z P M h)), .bool (caB n p z P M h)]) ∧ Ext w w' := by
  cases hc : caB n p z P M h with
  | false =>
    have hI := hid (fun (u : World) (e : Ext w0 u) => @l4Good_any n p z h P M dP dM cP cM w0 u e hP hM hPl)
    rw [hc] at hI
    rw [show ctL n p z P M h = [] by unfold ctL; rw [hc]; rfl]
    obtain ⟨W, hW⟩ : ∃ W, W = w.alloc (.cells #[.int .i64 p, .int .i64 z, .slice dP P.length cP, .slice dM M.length cM, .int .i64 h] 26) := ⟨_, rfl⟩
    have eW : Ext w W := by rw [hW]; infer_instance
    have x0 : W.cell? ⟨w.heap.size, 0, none⟩ = some (.int .i64 p) := by rw [hW]; go_simp
    have x1 : W.cell? ⟨w.heap.size, 1, none⟩ = some (.int .i64 z) := by rw [hW]; go_simp
    have x2 : W.cell? ⟨w.heap.size, 2, none⟩ = some (.slice dP P.length cP) := by rw [hW]; go_simp
    have x3 : W.cell? ⟨w.heap.size, 3, none⟩ = some (.slice dM M.length cM) := by rw [hW]; go_simp
    have x4 : W.cell? ⟨w.heap.size, 4, none⟩ = some (.int .i64 h) := by rw [hW]; go_simp
    go_enter Tryz.func7, Tryz.ntmps7
    go_upto_region 1 with fail
    rw [← hW]
    replace hW := hid hW
    have e0W : Ext w0 W := Ext.trans ‹Ext w0 w› eW
    go_wp2_with fail
    with_reducible refine (hI.out _ inferInstance).mono ?_
    rintro e w2 ⟨rfl, e2⟩
    go_wp2_with fail
    go_ret2
    exact ⟨rfl, Ext.trans eW e2⟩
  | true =>
    have hI := hid (fun (u : World) (e : Ext w0 u) => @l4Good_any n p z h P M dP dM cP cM w0 u e hP hM hPl)
    rw [hc] at hI
    have hT := hid (fun (u : World) (e : Ext w0 u) => @l4Text_any n p z h P M dP dM cP cM w0 u e hP hM hc)
    rw [show ctL n p z P M h = caL p z P M h by unfold ctL; rw [hc]; rfl]
    obtain ⟨S, hS⟩ : ∃ S, S = bsOf (caL p z P M h) := ⟨_, rfl⟩
    rw [← hS] at hT ⊢
    replace hS := hid hS
    obtain ⟨W, hW⟩ : ∃ W, W = w.alloc (.cells #[.int .i64 p, .int .i64 z, .slice dP P.length cP, .slice dM M.length cM, .int .i64 h] 26) := ⟨_, rfl⟩
    have eW : Ext w W := by rw [hW]; infer_instance
    have x0 : W.cell? ⟨w.heap.size, 0, none⟩ = some (.int .i64 p) := by rw [hW]; go_simp
    have x1 : W.cell? ⟨w.heap.size, 1, none⟩ = some (.int .i64 z) := by rw [hW]; go_simp
    have x2 : W.cell? ⟨w.heap.size, 2, none⟩ = some (.slice dP P.length cP) := by rw [hW]; go_simp
    have x3 : W.cell? ⟨w.heap.size, 3, none⟩ = some (.slice dM M.length cM) := by rw [hW]; go_simp
    have x4 : W.cell? ⟨w.heap.size, 4, none⟩ = some (.int .i64 h) := by rw [hW]; go_simp
    go_enter Tryz.func7, Tryz.ntmps7
    go_upto_region 1 with fail
    rw [← hW]
    replace hW := hid hW
    have e0W : Ext w0 W := Ext.trans ‹Ext w0 w› eW
    go_wp2_with fail
    with_reducible refine (hI.out _ inferInstance).mono ?_
    rintro e w2 ⟨rfl, e2⟩
    have x0 := e2.cell x0
    have x1 := e2.cell x1
    have x2 := e2.cell x2
    have x3 := e2.cell x3
    have x4 := e2.cell x4
    have e02 := Ext.trans e0W e2
    have eww := Ext.trans eW e2
    go_wp2_with fail
    with_reducible refine (hT.out w2 inferInstance).mono ?_
    rintro e w3 ⟨rfl, e3⟩
    go_wp2_with fail
    go_ret2
    exact ⟨rfl, Ext.trans eW (Ext.trans e2 e3)⟩
end Go.Proofs.YtaphnkgjcmneoaaGreatDoor
