/- The arguments of FnCacheForms, drawn. -/
import Derived.Test.YtaphnkgjcmneoaaGreatDoorCte
import Derived.Test.YtaphnkgjcmneoaaGreatDoorCir
import Derived.Test.YtaphnkgjcmneoaaGreatDoorCiw
namespace Go.Proofs.YtaphnkgjcmneoaaGreatDoor
open Go.RowKit

theorem CA.iP {p z h : Int} {P M : List Int} (k : CA p z P M h) : P.length ≤ 7 ∧ Short P.length ∧ ∀ y ∈ P, I64 y := by
  obtain ⟨_, _, h3, _, h5, _, _, _⟩ := k
  refine ⟨h3, by unfold Short; omega, fun y hy => ?_⟩
  have := h5 y hy
  unfold I64
  omega
theorem CA.iM {p z h : Int} {P M : List Int} (k : CA p z P M h) : M.length ≤ 7 ∧ Short M.length ∧ ∀ y ∈ M, I64 y := by
  obtain ⟨_, _, _, h4, _, h6, _, _⟩ := k
  refine ⟨h4, by unfold Short; omega, fun y hy => ?_⟩
  have := h6 y hy
  unfold I64
  omega
theorem CA.text {n p z h : Int} {P M : List Int} (k : CA p z P M h) (hc : caB n p z P M h = true) : (caL p z P M h).length ≤ 400 := by
  obtain ⟨_, _, h3, h4, h5, h6, h7, h8⟩ := k
  obtain ⟨_, _, g3, _⟩ := ca_parts hc
  have hb := caT_len (p := p) (z := z) (P := P) (M := M) (h := h) g3 (by omega) (fun y hy => by have := h5 y hy; omega) (fun y hy => by have := h6 y hy; omega) (t := P.length) (Nat.le_refl _)
  rw [caT_end] at hb
  omega
set_option maxHeartbeats 1600000 in
set_option maxRecDepth 100000 in
theorem drawNc_any {w0 w : World} [Ext w0 w] {vc : Value} {nb : Nat} (hc : IsBytes w0 vc nb) :
    Calls Tryz.prog 15 #[vc] w fun e w' => ∃ n p z : Int, e = .returned (.tuple #[.int .i64 n, .int .i64 p, .int .i64 z]) ∧ (-1 ≤ n ∧ n ≤ 9) ∧ (-1 ≤ p ∧ p ≤ 8) ∧ (-1 ≤ z ∧ z ≤ 8) ∧ Ext w w' := by
  obtain ⟨ac, cc, rfl⟩ := hc.form
  have hsz : w0.heap.size ≤ w.heap.size := (‹Ext w0 w›).size
  obtain ⟨B, hB⟩ : ∃ B, B = w.heap.size := ⟨_, rfl⟩
  have own1 : CurAt (w.alloc (.cells #[.slice ac nb cc, .int .i64 0, .int .u64 0] 49)) B B (.slice ac nb cc) 0 [] := by
    rw [hB]
    exact CurAt.begin0 (Own.nil w w.heap.size) (Nat.le_refl _)
  have b1 : Below B w (w.alloc (.cells #[.slice ac nb cc, .int .i64 0, .int .u64 0] 49)) := by rw [hB]; exact (Below.refl _ w).alloc (Nat.le_refl _) _
  have hwB : w0.heap.size ≤ B := by omega
  have hE := hid (show ∀ u, Below B w u → Ext w u from fun u h => ⟨by rw [← hB]; exact h⟩)
  go_enter Tryz.func15, Tryz.ntmps15
  go_upto_region 2 with fail
  rw [← hB]
  replace hB := hid hB
  generalize w.alloc (.cells #[.slice ac nb cc, .int .i64 0, .int .u64 0] 49) = w1 at *
  have e1 : Ext w0 w1 := Ext.trans ‹Ext w0 w› (hE.out _ b1)
  go_wp2_with fail
  refine (items_any (w0 := w0) hc own1 hwB (by omega) (by omega)).mono ?_
  rintro e w2 ⟨n, a2, rfl, hn, h2a, h2b, own2, b2⟩
  have b2' := b1.trans b2
  have e2 : Ext w0 w2 := Ext.trans ‹Ext w0 w› (hE.out _ b2')
  go_wp2_with fail
  refine (policy_any (w0 := w0) hc own2 hwB (by omega) (by omega)).mono ?_
  rintro e w3 ⟨p, a3, rfl, hp, h3a, h3b, own3, b3⟩
  have b3' := b2'.trans b3
  have e3 : Ext w0 w3 := Ext.trans ‹Ext w0 w› (hE.out _ b3')
  go_wp2_with fail
  refine (size4_any (w0 := w0) hc own3 hwB (by omega) (by omega)).mono ?_
  rintro e w4 ⟨z, a4, rfl, hz, h4a, h4b, own4, b4⟩
  have bE := hE.out _ (b3'.trans b4)
  go_wp2_with fail
  refine bodyPost_ret (v := .tuple #[.int .i64 n, .int .i64 p, .int .i64 z]) (by simp [results, Tryz.results15, go_sem]) rfl ?_
  exact ⟨n, p, z, rfl, hn, hp, hz, bE⟩
set_option maxHeartbeats 1600000 in
set_option maxRecDepth 100000 in
theorem drawPn_any {w0 w : World} [Ext w0 w] {vc : Value} {nb : Nat} (hc : IsBytes w0 vc nb) :
    Calls Tryz.prog 18 #[vc] w fun e w' => ∃ p : Int, e = .returned (.int .i64 p) ∧ (-1 ≤ p ∧ p ≤ 8) ∧ Ext w w' := by
  obtain ⟨ac, cc, rfl⟩ := hc.form
  have hsz : w0.heap.size ≤ w.heap.size := (‹Ext w0 w›).size
  obtain ⟨B, hB⟩ : ∃ B, B = w.heap.size := ⟨_, rfl⟩
  have own1 : CurAt (w.alloc (.cells #[.slice ac nb cc, .int .i64 0, .int .u64 0] 49)) B B (.slice ac nb cc) 0 [] := by
    rw [hB]
    exact CurAt.begin0 (Own.nil w w.heap.size) (Nat.le_refl _)
  have b1 : Below B w (w.alloc (.cells #[.slice ac nb cc, .int .i64 0, .int .u64 0] 49)) := by rw [hB]; exact (Below.refl _ w).alloc (Nat.le_refl _) _
  have hwB : w0.heap.size ≤ B := by omega
  have hE := hid (show ∀ u, Below B w u → Ext w u from fun u h => ⟨by rw [← hB]; exact h⟩)
  go_enter Tryz.func18, Tryz.ntmps18
  go_upto_region 2 with fail
  rw [← hB]
  replace hB := hid hB
  generalize w.alloc (.cells #[.slice ac nb cc, .int .i64 0, .int .u64 0] 49) = w1 at *
  have e1 : Ext w0 w1 := Ext.trans ‹Ext w0 w› (hE.out _ b1)
  go_wp2_with fail
  refine (pick_any (w0 := w0) hc own1 hwB (by omega) (by omega)).mono ?_
  rintro e w2 ⟨x, a2, rfl, hx0, hx1, hx2, h2a, h2b, own2, b2⟩
  have hx3 := hx2 (by omega)
  have bE := hE.out _ (b1.trans b2)
  go_wp2_with fail
  go_ret
  exact ⟨x - 1, by go_num, by omega, bE⟩
set_option maxHeartbeats 1600000 in
theorem l4Names0_any (w : World) :
    Calls Tryz.prog 57 #[.int .i64 0] w fun e w' => ∃ g, e = .returned (.slice (some ⟨g, 0, none⟩) 8 8) ∧ Own w' w.heap.size [strRow 9 (.slice (some ⟨g, 0, none⟩) 8 8) ([] :: nmL)] ∧ Ext w w' := by
  obtain ⟨W, hW⟩ : ∃ W, W = w.alloc (.cells #[.string { data := #[] }, .string { data := #[108, 114, 117] }, .string { data := #[102, 105, 102, 111] }, .string { data := #[108, 105, 102, 111] }, .string { data := #[102, 108, 117, 115, 104] }, .string { data := #[108, 102, 117] }, .string { data := #[99, 108, 111, 99, 107] }, .string { data := #[109, 114, 117] }] 9) := ⟨_, rfl⟩
  have eW : Ext w W := by rw [hW]; infer_instance
  have oW : Own W w.heap.size [strRow 9 (.slice (some ⟨w.heap.size, 0, none⟩) 8 8) ([] :: nmL)] := by
    rw [hW]
    exact (Own.nil w w.heap.size).lit 9 1 8 #[.string { data := #[] }, .string { data := #[108, 114, 117] }, .string { data := #[102, 105, 102, 111] }, .string { data := #[108, 105, 102, 111] }, .string { data := #[102, 108, 117, 115, 104] }, .string { data := #[108, 102, 117] }, .string { data := #[99, 108, 111, 99, 107] }, .string { data := #[109, 114, 117] }] (Nat.le_refl _) (by unfold maxLen; omega) rfl
  go_enter Tryz.func57, Tryz.ntmps57
  go_wp2_with fail
  rw [← hW]
  refine bodyPost_ret (v := .slice (some ⟨w.heap.size, 0, none⟩) 8 8) (by simp [results, Tryz.results57, go_sem]) rfl ?_
  exact ⟨w.heap.size, rfl, oW, eW⟩
set_option maxHeartbeats 1600000 in
set_option maxRecDepth 100000 in
theorem drawPo_any {w0 w : World} [Ext w0 w] {vc : Value} {nb : Nat} (hc : IsBytes w0 vc nb) :
    Calls Tryz.prog 21 #[vc] w fun e w' => ∃ L : List UInt8, e = .returned (.string (bsOf L)) ∧ L.length ≤ 100 ∧ Ext w w' := by
  obtain ⟨ac, cc, rfl⟩ := hc.form
  have hsz : w0.heap.size ≤ w.heap.size := (‹Ext w0 w›).size
  obtain ⟨B, hB⟩ : ∃ B, B = w.heap.size := ⟨_, rfl⟩
  have own1 : CurAt (w.alloc (.cells #[.slice ac nb cc, .int .i64 0, .int .u64 0] 49)) B B (.slice ac nb cc) 0 [] := by
    rw [hB]
    exact CurAt.begin0 (Own.nil w w.heap.size) (Nat.le_refl _)
  have b1 : Below B w (w.alloc (.cells #[.slice ac nb cc, .int .i64 0, .int .u64 0] 49)) := by rw [hB]; exact (Below.refl _ w).alloc (Nat.le_refl _) _
  have hwB : w0.heap.size ≤ B := by omega
  have hE := hid (show ∀ u, Below B w u → Ext w u from fun u h => ⟨by rw [← hB]; exact h⟩)
  go_enter Tryz.func21, Tryz.ntmps21
  go_upto_region 2 with fail
  rw [← hB]
  replace hB := hid hB
  generalize w.alloc (.cells #[.slice ac nb cc, .int .i64 0, .int .u64 0] 49) = w1 at *
  have e1 : Ext w0 w1 := Ext.trans ‹Ext w0 w› (hE.out _ b1)
  go_wp2_with fail
  refine (l4Names0_any w1).mono ?_
  rintro e w2 ⟨g, rfl, ownS, e2⟩
  have own2 := own1.join ownS e2 own1.low
  have b2' : Below B w w2 := b1.trans (e2.below.mono own1.low)
  have i2 : Ext w0 w2 := Ext.trans ‹Ext w0 w› (hE.out _ b2')
  have hQ : ∀ x ∈ ([] :: nmL), x.length ≤ 5 := by decide
  clear own1 ownS
  simp only [List.cons_append, List.nil_append] at own2
  have hof := of_any (w0 := w0) (w := w2) hc own2 hwB (by omega) (by omega) (by decide) (by decide)
  replace hof := hid hof
  go_wp2_with fail
  refine hof.out.mono ?_
  rintro e w3 ⟨L, a3, rfl, hx, h3a, h3b, own3, b3⟩
  have hl := hQ L hx
  have b3' := b2'.trans b3
  have i3 : Ext w0 w3 := Ext.trans ‹Ext w0 w› (hE.out _ b3')
  have hsp := fun (u : World) (a : Int) (i1 : Ext w0 u) (own : CurAt u B B (.slice ac nb cc) a []) (h1 : 0 ≤ a) (h2 : a ≤ 2000000) => spoilt_any (w0 := w0) (w := u) hc own hwB h1 h2 (L := L) (Wl := [108, 114, 117, 102]) (by omega) (by decide)
  obtain ⟨S, hS⟩ : ∃ S, S = bsOf L := ⟨_, rfl⟩
  rw [← hS] at hsp ⊢
  replace hsp := hid hsp
  replace hS := hid hS
  have own4 := own3.drop
  clear own3 own2 hx
  go_wp2_with fail
  refine (one_any (w0 := w0) hc own4 hwB (by omega) (by omega)).mono ?_
  rintro e w5 ⟨b, a5, rfl, h5a, h5b, own5, b5⟩
  have b5' := b3'.trans b5
  have i5 : Ext w0 w5 := Ext.trans ‹Ext w0 w› (hE.out _ b5')
  cases b with
  | false =>
    have bE := hE.out _ b5'
    go_wp2_with fail
    refine bodyPost_ret (v := .string S) (by simp [results, Tryz.results21, go_sem]) rfl ?_
    exact ⟨L, by rw [hS.out], by omega, bE⟩
  | true =>
    go_wp2_with fail
    refine (hsp.out w5 a5 i5 own5 (by omega) (by omega)).mono ?_
    rintro e w6 ⟨T, a6, rfl, hTl2, h6a, h6b, own6, b6⟩
    have bE := hE.out _ (b5'.trans b6)
    obtain ⟨Z, hZ⟩ : ∃ Z, Z = bsOf T := ⟨_, rfl⟩
    rw [← hZ]
    replace hZ := hid hZ
    go_wp2_with fail
    refine bodyPost_ret (v := .string Z) (by simp [results, Tryz.results21, go_sem]) rfl ?_
    exact ⟨T, by rw [hZ.out], by omega, bE⟩
end Go.Proofs.YtaphnkgjcmneoaaGreatDoor
