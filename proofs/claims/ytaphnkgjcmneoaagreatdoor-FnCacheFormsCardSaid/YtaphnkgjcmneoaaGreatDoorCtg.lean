/- A cache and a cache's text, drawn. -/
import Derived.Test.YtaphnkgjcmneoaaGreatDoorCtf
import Derived.Test.YtaphnkgjcmneoaaGreatDoorCjc
namespace Go.Proofs.YtaphnkgjcmneoaaGreatDoor
open Go.RowKit

theorem res_bxR {fn : Func} {t u : Tmp} (h : fn.results = #[.tmp u, .cell t 26]) {tmps : Array Value} {w : World} {c : Nat} {a0 a1 a2 a3 a4 : Value} (hp : tmps.getD t undef = .pointer (some ⟨c, 0, none⟩)) (hb : BX w c a0 a1 a2 a3 a4) :
    (results fn tmps).run Tryz.prog w = .ok (.tuple #[tmps.getD u undef, .agg #[a0, a1, a2, a3, a4]]) w := by
  obtain ⟨r0, r1, r2, r3, r4, _, _, _, _, _⟩ := hb
  have hp' : tmps[t]?.getD undef = .pointer (some ⟨c, 0, none⟩) := by simpa using hp
  simp [results, h, hp', go_sem, r0, r1, r2, r3, r4]
set_option maxHeartbeats 1600000 in
set_option maxRecDepth 100000 in
theorem drawIc_any {w0 w : World} [Ext w0 w] {vc : Value} {nb : Nat} (hc : IsBytes w0 vc nb) :
    Calls Tryz.prog 5 #[vc] w fun e w' => ∃ (n p z : Int) (P M : List Int) (h : Int) (dP : Option Addr) (cP : Nat) (dM : Option Addr) (cM : Nat), e = .returned (.tuple #[.int .i64 n, .agg #[.int .i64 p, .int .i64 z, .slice dP P.length cP, .slice dM M.length cM, .int .i64 h]]) ∧ (-1 ≤ n ∧ n ≤ 9) ∧ CA p z P M h ∧ IsInts w' (.slice dP P.length cP) P ∧ IsInts w' (.slice dM M.length cM) M ∧ Ext w w' := by
  obtain ⟨ac, cc, rfl⟩ := hc.form
  have hsz : w0.heap.size ≤ w.heap.size := (‹Ext w0 w›).size
  obtain ⟨B, hB⟩ : ∃ B, B = w.heap.size := ⟨_, rfl⟩
  obtain ⟨W, hW⟩ : ∃ W, W = w.alloc (.cells #[.int .i64 0, .int .i64 0, .slice none 0 0, .slice none 0 0, .int .i64 0] 26) := ⟨_, rfl⟩
  have ownR : Own W B [bxRow B (.int .i64 0) (.int .i64 0) (.slice none 0 0) (.slice none 0 0) (.int .i64 0)] := by
    rw [hW, hB]
    exact bx_new (Own.nil w w.heap.size) (Nat.le_refl _) _ _ _ _ _
  have bW : Below B w W := by rw [hW, hB]; exact (Below.refl _ w).alloc (Nat.le_refl _) _
  have hWs : W.heap.size = B + 1 := by rw [hW, hB]; go_simp
  have own1 := CurAt.begin0 (vc := .slice ac nb cc) ownR (by omega)
  have b1 : Below B w (W.alloc (.cells #[.slice ac nb cc, .int .i64 0, .int .u64 0] 49)) := bW.alloc (by omega) _
  rw [hWs] at own1
  have hwB : w0.heap.size ≤ B := by omega
  have hE := hid (show ∀ u, Below B w u → Ext w u from fun u h => ⟨by rw [← hB]; exact h⟩)
  go_enter Tryz.func5, Tryz.ntmps5
  go_upto_region 1 with fail
  rw [← hW, ← hB]
  replace hB := hid hB
  replace hW := hid hW
  go_upto_region 2 with fail
  obtain ⟨c, hcc⟩ : ∃ c, c = B + 1 := ⟨_, rfl⟩
  rw [← hcc] at own1 ⊢
  clear ownR bW hWs
  replace hcc := hid hcc
  generalize W.alloc (.cells #[.slice ac nb cc, .int .i64 0, .int .u64 0] 49) = w1 at *
  have e1 : Ext w0 w1 := Ext.trans ‹Ext w0 w› (hE.out _ b1)
  go_wp2_with fail
  refine (items_any (w0 := w0) hc own1 hwB (by omega) (by omega)).mono ?_
  rintro e w2 ⟨n, a2, rfl, hn, h2a, h2b, own2, b2⟩
  have b2' := b1.trans b2
  have e2 : Ext w0 w2 := Ext.trans ‹Ext w0 w› (hE.out _ b2')
  go_wp2_with fail
  refine (cache_any (w0 := w0) hc own2 hwB (by omega) (by omega) hn).mono ?_
  rintro e w3 ⟨p, z, P, M, h, dP, cP, dM, cM, a3, rfl, k, h3a, h3b, own3, b3⟩
  have b3' := b2'.trans b3
  have own4 := own3.perm (R' := bxRow B (.int .i64 0) (.int .i64 0) (.slice none 0 0) (.slice none 0 0) (.int .i64 0) :: intRowOf 3 (.slice dP P.length cP) P :: intRowOf 3 (.slice dM M.length cM) M :: []) (perm_cab _ _ _)
  have hx := own4.bx
  have own5 := CurAt.bx5 (v0 := .int .i64 p) (v1 := .int .i64 z) (v2 := .slice dP P.length cP) (v3 := .slice dM M.length cM) (v4 := .int .i64 h) own4
  have hZ := own5.bx
  have bE := hE.out _ (below5 b3' (Nat.le_refl B) (.int .i64 p) (.int .i64 z) (.slice dP P.length cP) (.slice dM M.length cM) (.int .i64 h))
  have hIP := own5.rows.tail.reads k.iP.2.1 k.iP.2.2
  have hIM := own5.rows.tail.tail.reads k.iM.2.1 k.iM.2.2
  obtain ⟨r0, r1, r2, r3, r4, f0, f1, f2, f3, f4⟩ := hx
  go_wp2_with fail
  refine bodyPost_ret (res_bxR rfl rfl hZ) rfl ?_
  exact ⟨n, p, z, P, M, h, dP, cP, dM, cM, rfl, hn, k, hIP, hIM, bE⟩
theorem new_text {p : Int} (hp : 1 ≤ p ∧ p ≤ 7) : caB 1 p 2 [] [] 0 = true := by
  have h : p = 1 ∨ p = 2 ∨ p = 3 ∨ p = 4 ∨ p = 5 ∨ p = 6 ∨ p = 7 := by omega
  rcases h with rfl | rfl | rfl | rfl | rfl | rfl | rfl <;> decide
theorem new_len {p : Int} : (caL p 2 [] [] 0).length ≤ 400 := by
  have hb := caT_len (p := p) (z := 2) (P := []) (M := []) (h := 0) (by omega) (by omega) (by simp) (by simp) (t := 0) (Nat.le_refl _)
  have he := caT_end (p := p) (z := 2) (P := []) (M := []) (h := 0)
  rw [show ([] : List Int).length = 0 from rfl] at he
  rw [he] at hb
  omega
set_option maxHeartbeats 3200000 in
set_option maxRecDepth 100000 in
theorem drawPca_any {w0 w : World} [Ext w0 w] {vc : Value} {nb : Nat} (hc : IsBytes w0 vc nb) :
    Calls Tryz.prog 12 #[vc] w fun e w' => ∃ (n : Int) (L : List UInt8), e = .returned (.tuple #[.int .i64 n, .string (bsOf L)]) ∧ (-1 ≤ n ∧ n ≤ 9) ∧ L.length ≤ 50000 ∧ Ext w w' := by
  obtain ⟨ac, cc, rfl⟩ := hc.form
  have hsz : w0.heap.size ≤ w.heap.size := (‹Ext w0 w›).size
  obtain ⟨B, hB⟩ : ∃ B, B = w.heap.size := ⟨_, rfl⟩
  have own1 : CurAt (w.alloc (.cells #[.slice ac nb cc, .int .i64 0, .int .u64 0] 49)) B B (.slice ac nb cc) 0 [] := by
    rw [hB]
    exact CurAt.begin0 (Own.nil w w.heap.size) (Nat.le_refl _)
  have b1 : Below B w (w.alloc (.cells #[.slice ac nb cc, .int .i64 0, .int .u64 0] 49)) := by rw [hB]; exact (Below.refl _ w).alloc (Nat.le_refl _) _
  have hwB : w0.heap.size ≤ B := by omega
  have hE := hid (show ∀ u, Below B w u → Ext w u from fun u h => ⟨by rw [← hB]; exact h⟩)
  go_enter Tryz.func12, Tryz.ntmps12
  go_upto_region 2 with fail
  rw [← hB]
  replace hB := hid hB
  generalize w.alloc (.cells #[.slice ac nb cc, .int .i64 0, .int .u64 0] 49) = w1 at *
  have e1 : Ext w0 w1 := Ext.trans ‹Ext w0 w› (hE.out _ b1)
  go_wp2_with fail
  refine (items_any (w0 := w0) hc own1 hwB (by omega) (by omega)).mono ?_
  rintro e w2 ⟨n, a2, rfl, hn, h2a, h2b, own2, b2⟩
  have b2' := b1.trans b2
  have e2 : Ext w0 w2 := Ext.trans ‹Ext w0 w› (hE.out _ b2')
  go_wp2_with fail
  refine (pick_any (w0 := w0) hc own2 hwB (by omega) (by omega)).mono ?_
  rintro e w3 ⟨x, a3, rfl, hx0, hx1, hx2, h3a, h3b, own3, b3⟩
  have hx3 := hx2 (by omega)
  have b3' := b2'.trans b3
  clear hx2 own1 own2
  obtain ⟨q, hq⟩ : ∃ q, q = 1 + x := ⟨_, rfl⟩
  have hqb : 1 ≤ q ∧ q ≤ 7 := by omega
  have hqw : IntKind.i64.wrap (1 + x) = q := by rw [hq]; exact IntWalk.i64_in _ (by omega)
  replace hq := hid hq
  go_wp2_with fail
  refine (l4New_any _ _ _).mono ?_
  rintro e w4 ⟨dP0, dM0, rfl, -, e4⟩
  try rw [← hq.out]
  have own4 := own3.ext (w' := w4)
  have b4' : Below B w w4 := b3'.trans (e4.below.mono own3.low)
  obtain ⟨S0, hS0⟩ : ∃ S, S = bsOf (caL q 2 [] [] 0) := ⟨_, rfl⟩
  have hl0 := new_len (p := q)
  have hTx := l4Text_any (n := 1) (p := q) (z := 2) (h := 0) (P := []) (M := []) (w0 := w4) (w := w4) (ints_e w4 (some dP0) 0) (ints_e w4 (some dM0) 0) (new_text hqb)
  rw [← hS0] at hTx
  obtain ⟨L0, hL0⟩ : ∃ L, L = caL q 2 [] [] 0 := ⟨_, rfl⟩
  rw [← hL0] at hS0 hl0
  replace hTx := hid hTx
  replace hS0 := hid hS0
  replace hL0 := hid hL0
  go_wp2_with fail
  refine hTx.out.mono ?_
  rintro e w5 ⟨rfl, e5⟩
  have own5 := own4.ext (w' := w5)
  have b5' : Below B w w5 := b4'.trans (e5.below.mono own4.low)
  have i5 : Ext w0 w5 := Ext.trans ‹Ext w0 w› (hE.out _ b5')
  clear own3 own4 hTx e4 e5
  go_wp2_with fail
  refine (cache_any (w0 := w0) hc own5 hwB (by omega) (by omega) hn).mono ?_
  rintro e w6 ⟨p, z, P, M, h, dP, cP, dM, cM, a6, rfl, k, h6a, h6b, own6, b6⟩
  have b6' := b5'.trans b6
  have hIP := own6.rows.reads k.iP.2.1 k.iP.2.2
  have hIM := own6.rows.tail.reads k.iM.2.1 k.iM.2.2
  obtain ⟨W, hW⟩ : ∃ W, W = w6.alloc (.cells #[.int .i64 p, .int .i64 z, .slice dP P.length cP, .slice dM M.length cM, .int .i64 h] 26) := ⟨_, rfl⟩
  have eW : Ext w6 W := by rw [hW]; infer_instance
  have hX : BX W w6.heap.size (.int .i64 p) (.int .i64 z) (.slice dP P.length cP) (.slice dM M.length cM) (.int .i64 h) := by
    rw [hW]
    exact BX.alloc w6 26 (.int .i64 p) (.int .i64 z) (.slice dP P.length cP) (.slice dM M.length cM) (.int .i64 h)
  have own7 := own6.ext (w' := W)
  have b7' : Below B w W := b6'.trans (eW.below.mono own6.low)
  go_upto_region 5 with fail
  rw [← hW]
  replace hW := hid hW
  have hIP7 := hIP.ext (w' := W)
  have hIM7 := hIM.ext (w' := W)
  obtain ⟨g, hg⟩ : ∃ g, g = w6.heap.size := ⟨_, rfl⟩
  rw [← hg] at hX ⊢
  replace hg := hid hg
  clear own5 own6 hIP hIM eW b6
  have hGo := hid (@l4Good_any n p z h P M dP dM cP cM W W (Ext.refl _) hIP7 hIM7 (by have := k.iP.1; omega))
  have hX' := hX
  obtain ⟨r0, r1, r2, r3, r4, -, -, -, -, -⟩ := hX'
  cases hgd : caB n p z P M h with
  | false =>
    rw [hgd] at hGo
    go_wp2_with fail
    with_reducible refine hGo.out.mono ?_
    rintro e w8 ⟨rfl, e8⟩
    have own8 := own7.ext (w' := w8)
    have b8' : Below B w w8 := b7'.trans (e8.below.mono own7.low)
    have i8 : Ext w0 w8 := Ext.trans ‹Ext w0 w› (hE.out _ b8')
    have hsp := fun (u : World) (a : Int) (R : List Row) (i1 : Ext w0 u) (own : CurAt u B B (.slice ac nb cc) a R) (h1 : 0 ≤ a) (h2 : a ≤ 2000000) => spoilt_any (w0 := w0) (w := u) hc own hwB h1 h2 (L := L0) (Wl := [32, 48, 49, 50, 51, 58, 47, 64]) (by omega) (by decide)
    rw [← hS0.out] at hsp
    replace hsp := hid hsp
    clear r0 r1 r2 r3 r4
    go_wp2_with fail
    refine (one_any (w0 := w0) hc own8 hwB (by omega) (by omega)).mono ?_
    rintro e w7 ⟨b, a7, rfl, h7a, h7b, own7, b7⟩
    have b7' := (b8').trans b7
    have i7 : Ext w0 w7 := Ext.trans ‹Ext w0 w› (hE.out _ b7')
    cases b with
    | false =>
      have bE := hE.out _ b7'
      go_wp2_with fail
      refine bodyPost_ret (v := .tuple #[.int .i64 n, .string S0]) (by simp [results, Tryz.results12, go_sem]) rfl ?_
      exact ⟨n, L0, by rw [hS0.out], hn, by omega, bE⟩
    | true =>
      go_wp2_with fail
      refine (hsp.out w7 a7 _ i7 own7 (by omega) (by omega)).mono ?_
      rintro e w8 ⟨T, a8, rfl, hTl2, h8a, h8b, own8, b8⟩
      have bE := hE.out _ (b7'.trans b8)
      obtain ⟨Z, hZ⟩ : ∃ Z, Z = bsOf T := ⟨_, rfl⟩
      rw [← hZ]
      replace hZ := hid hZ
      go_wp2_with fail
      refine bodyPost_ret (v := .tuple #[.int .i64 n, .string Z]) (by simp [results, Tryz.results12, go_sem]) rfl ?_
      exact ⟨n, T, by rw [hZ.out], hn, by omega, bE⟩
  | true =>
    rw [hgd] at hGo
    obtain ⟨S1, hS1⟩ : ∃ S, S = bsOf (caL p z P M h) := ⟨_, rfl⟩
    have hl1 := k.text hgd
    have hTy := fun (u : World) (e : Ext W u) => @l4Text_any n p z h P M dP dM cP cM W u e hIP7 hIM7 hgd
    rw [← hS1] at hTy
    obtain ⟨L1, hL1⟩ : ∃ L, L = caL p z P M h := ⟨_, rfl⟩
    rw [← hL1] at hS1 hl1
    replace hTy := hid hTy
    replace hS1 := hid hS1
    replace hL1 := hid hL1
    replace hgd := hid hgd
    go_wp2_with fail
    with_reducible refine hGo.out.mono ?_
    rintro e w8 ⟨rfl, e8⟩
    have own8 := own7.ext (w' := w8)
    have b8' : Below B w w8 := b7'.trans (e8.below.mono own7.low)
    clear r0 r1 r2 r3 r4
    have hX8 := hX.ext e8
    obtain ⟨r0, r1, r2, r3, r4, -, -, -, -, -⟩ := hX8
    go_wp2_with fail
    refine (hTy.out w8 e8).mono ?_
    rintro e w9 ⟨rfl, e9⟩
    have own9 := own8.ext (w' := w9)
    have b9' : Below B w w9 := b8'.trans (e9.below.mono own8.low)
    have i9 : Ext w0 w9 := Ext.trans ‹Ext w0 w› (hE.out _ b9')
    have hsp := fun (u : World) (a : Int) (R : List Row) (i1 : Ext w0 u) (own : CurAt u B B (.slice ac nb cc) a R) (h1 : 0 ≤ a) (h2 : a ≤ 2000000) => spoilt_any (w0 := w0) (w := u) hc own hwB h1 h2 (L := L1) (Wl := [32, 48, 49, 50, 51, 58, 47, 64]) (by omega) (by decide)
    rw [← hS1.out] at hsp
    replace hsp := hid hsp
    clear r0 r1 r2 r3 r4 own8 own7
    go_wp2_with fail
    refine (one_any (w0 := w0) hc own9 hwB (by omega) (by omega)).mono ?_
    rintro e w7 ⟨b, a7, rfl, h7a, h7b, own7, b7⟩
    have b7' := (b9').trans b7
    have i7 : Ext w0 w7 := Ext.trans ‹Ext w0 w› (hE.out _ b7')
    cases b with
    | false =>
      have bE := hE.out _ b7'
      go_wp2_with fail
      refine bodyPost_ret (v := .tuple #[.int .i64 n, .string S1]) (by simp [results, Tryz.results12, go_sem]) rfl ?_
      exact ⟨n, L1, by rw [hS1.out], hn, by omega, bE⟩
    | true =>
      go_wp2_with fail
      refine (hsp.out w7 a7 _ i7 own7 (by omega) (by omega)).mono ?_
      rintro e w8 ⟨T, a8, rfl, hTl2, h8a, h8b, own8, b8⟩
      have bE := hE.out _ (b7'.trans b8)
      obtain ⟨Z, hZ⟩ : ∃ Z, Z = bsOf T := ⟨_, rfl⟩
      rw [← hZ]
      replace hZ := hid hZ
      go_wp2_with fail
      refine bodyPost_ret (v := .tuple #[.int .i64 n, .string Z]) (by simp [results, Tryz.results12, go_sem]) rfl ?_
      exact ⟨n, T, by rw [hZ.out], hn, by omega, bE⟩
end Go.Proofs.YtaphnkgjcmneoaaGreatDoor
