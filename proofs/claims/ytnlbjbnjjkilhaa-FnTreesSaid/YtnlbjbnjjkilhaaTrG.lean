/- The program's metric of a tree walked: metricOf, closed. -/
import Derived.Test.YtnlbjbnjjkilhaaTrD
namespace Go.Proofs.Ytnlbjbnjjkilhaa
open Go.RowKit

set_option maxHeartbeats 3200000 in
set_option maxRecDepth 100000 in
theorem metricOf_any {v : Value} {M : List (List Int)} {w0 w : World} [Ext w0 w] (hR : IsRows w0 v M) :
    Calls Try.prog 25 #[v] w fun e w' => e = .returned (.tuple #[if metB M = true then .agg #[v] else .agg #[.slice none 0 0], .bool (metB M)]) ∧ Ext w w' := by
  have hm' : IsMet w0 (.agg #[v]) M := ⟨_, rfl, hR⟩
  obtain ⟨a1, c1, rfl, l1⟩ := hR.form
  obtain ⟨mb, hmb⟩ : ∃ mb, mb = metB M := ⟨_, rfl⟩
  rw [← hmb]
  go_enter Try.func25, Try.ntmps25
  go_upto_region 2 with fail
  have ez : Ext w ((w.alloc (.cells #[.slice none 0 0] 29)).alloc (.cells #[.slice a1 M.length c1] 29)) := inferInstance
  have q0 : ((w.alloc (.cells #[.slice none 0 0] 29)).alloc (.cells #[.slice a1 M.length c1] 29)).cell? ⟨w.heap.size + 1, 0, none⟩ = some (.slice a1 M.length c1) := by go_simp
  have z0 : ((w.alloc (.cells #[.slice none 0 0] 29)).alloc (.cells #[.slice a1 M.length c1] 29)).cell? ⟨w.heap.size, 0, none⟩ = some (.slice none 0 0) := by go_simp
  have zf : ((w.alloc (.cells #[.slice none 0 0] 29)).alloc (.cells #[.slice a1 M.length c1] 29)).frozen? ⟨w.heap.size, 0, none⟩ = false := by go_simp
  generalize (w.alloc (.cells #[.slice none 0 0] 29)).alloc (.cells #[.slice a1 M.length c1] 29) = wa at *
  have e0a : Ext w0 wa := Ext.trans ‹Ext w0 w› ez
  cases mb with
  | false =>
    have hM := hid hmb.symm
    clear hmb
    go_wp2_with fail
    with_reducible refine (IsMetric_any (w0 := w0) hm').mono ?_
    rw [hM.out]
    rintro e w1 ⟨rfl, e1⟩
    have z1 := e1.cell z0
    have f1 := e1.frozen z0 zf
    have hset : (w1.setCell ⟨w.heap.size, 0, none⟩ (.slice none 0 0)).cell? ⟨w.heap.size, 0, none⟩ = some (.slice none 0 0) := by go_simp
    have eF : Ext w (w1.setCell ⟨w.heap.size, 0, none⟩ (.slice none 0 0)) := ⟨(Ext.trans ez e1).below.setCell (Nat.le_refl _) _⟩
    go_wp2_with fail
    refine bodyPost_ret (v := .tuple #[.agg #[.slice none 0 0], .bool false]) (by simp [results, Try.results25, go_sem, hset]) rfl ?_
    exact ⟨rfl, eF⟩
  | true =>
    have hM := hid hmb.symm
    clear hmb
    go_wp2_with fail
    with_reducible refine (IsMetric_any (w0 := w0) hm').mono ?_
    rw [hM.out]
    rintro e w1 ⟨rfl, e1⟩
    have z1 := e1.cell z0
    have f1 := e1.frozen z0 zf
    have q1 := e1.cell q0
    have hset : (w1.setCell ⟨w.heap.size, 0, none⟩ (.slice a1 M.length c1)).cell? ⟨w.heap.size, 0, none⟩ = some (.slice a1 M.length c1) := by go_simp
    have eF : Ext w (w1.setCell ⟨w.heap.size, 0, none⟩ (.slice a1 M.length c1)) := ⟨(Ext.trans ez e1).below.setCell (Nat.le_refl _) _⟩
    go_wp2_with fail
    refine bodyPost_ret (v := .tuple #[.agg #[.slice a1 M.length c1], .bool true]) (by simp [results, Try.results25, go_sem, hset]) rfl ?_
    exact ⟨rfl, eF⟩
theorem edV_far {pa : Nat → Nat} {le : Nat → Int} {n : Nat} {far : Int} (hT : TrOk pa le n) (_hl : ∀ k, k < n → le k ≤ 99) {u v : Nat} (hu : u < n) (hv : v < n) : edV pa le n n far u v = if edV pa le n n (-1) u v < 0 then far else edV pa le n n (-1) u v := by
  unfold edV
  by_cases e : u = v
  · rw [if_pos e, if_pos e, if_pos hu, if_pos hu, if_neg (by omega)]
  · rw [if_neg e, if_neg e]
    by_cases c : v < u ∧ u < n ∧ pa u = v
    · have := hT u (by omega) hu
      rw [if_pos c, if_pos c, if_neg (by omega)]
    · rw [if_neg c, if_neg c]
      by_cases c2 : u < v ∧ v < n ∧ pa v = u
      · have := hT v (by omega) hv
        rw [if_pos c2, if_pos c2, if_neg (by omega)]
      · rw [if_neg c2, if_neg c2, if_pos (by omega)]
theorem tb_tab {f : Nat → Nat → Int} {n : Nat} : TbF (uniTab f n n) n f :=
  ⟨by simp [uniTab], fun u hu => by simp [uniTab, row, uniRow, hu], fun u v hu hv => by simp [uniTab, row, uniRow, nth, hu, hv]⟩
set_option maxHeartbeats 3200000 in
set_option maxRecDepth 100000 in
theorem closed_any {v : Value} {M : List (List Int)} {n : Nat} {pa : Nat → Nat} {le : Nat → Int} {w0 w : World} [Ext w0 w] (hm : IsMet w0 v M) (hM : TbF M n (edV pa le n n (-1))) (hT : TrOk pa le n) (hl : ∀ k, k < n → le k ≤ 99) (h1n : 1 ≤ n ∧ n ≤ 6) :
    Calls Try.prog 26 #[v] w fun e w' => ∃ d0 m0 vs N, e = .returned (.slice d0 (N : List (List Int)).length m0) ∧ vs.length = N.length ∧ TbF N n (trD pa le n) ∧
      Own w' w.heap.size (rowsOf 24 3 (.slice d0 N.length m0) vs N) ∧ Ext w w' := by
  obtain ⟨v1, rfl, hR⟩ := hm
  obtain ⟨a1, c1, rfl, l1⟩ := hR.form
  have hMl := hM.len
  rw [hMl] at hR ⊢
  obtain ⟨f, hf⟩ : ∃ f : Nat → Nat → Int, f = fun x y => if edV pa le n n (-1) x y < 0 then 1073741824 else edV pa le n n (-1) x y := ⟨_, rfl⟩
  replace hf := hid hf
  go_enter Try.func26, Try.ntmps26
  go_upto_region 2 with fail
  generalize hW : (w.alloc (.cells #[.slice a1 n c1] 29)).alloc (.cells #[] 24) = W
  have eW : Ext w W := hW ▸ inferInstance
  have q0 : W.cell? ⟨w.heap.size, 0, none⟩ = some (.slice a1 n c1) := by subst hW; go_simp
  obtain ⟨g0, hg0⟩ : ∃ b, b = w.heap.size + 1 := ⟨_, rfl⟩
  rw [← hg0]
  have own0 : Own W (w.heap.size + 1) (rowsOf 24 3 (.slice (some ⟨g0, 0, none⟩) 0 0) [] [] ++ []) := by
    subst hW
    have h := (Own.nil (w.alloc (.cells #[.slice a1 n c1] 29)) (w.heap.size + 1)).lit 24 1 0 #[] (by simp) (by unfold maxLen; omega) rfl
    rw [show (w.alloc (.cells #[.slice a1 n c1] 29)).heap.size = g0 by simp; omega] at h
    exact h
  have hBW : w.heap.size + 1 ≤ W.heap.size := by subst hW; simp
  clear hW
  replace hg0 := hid hg0
  have e0W : Ext w0 W := Ext.trans ‹Ext w0 w› eW
  have hE := hid (show ∀ u, Below (w.heap.size + 1) W u → Ext w0 u from fun u h => ⟨e0W.below.trans (h.mono (Nat.le_trans (‹Ext w0 w›).size (Nat.le_succ _)))⟩)
  have hEw := hid (show ∀ u, Below (w.heap.size + 1) W u → Ext w u from fun u h => ⟨eW.below.trans (h.mono (Nat.le_succ _))⟩)
  go_upto_region 3 with fail
  go_loopw [3, 16] (fun ov i wr => ∃ x : Nat, x ≤ n ∧ i = .int .i64 x ∧ Below (w.heap.size + 1) W wr ∧ ∃ d0 m0 vs, ov = .slice d0 x m0 ∧ vs.length = x ∧ Own wr (w.heap.size + 1) (rowsOf 24 3 (.slice d0 x m0) vs (uniTab f n x) ++ [])) (fun _ i _ => n - (intOf i).toNat)
  case atStart => exact ⟨0, by omega, rfl, Below.refl _ _, _, _, [], rfl, rfl, own0⟩
  case round =>
    obtain ⟨x, hx, rfl, hb0, d0, m0, vs, rfl, hvs, hown⟩ := hrel
    obtain ⟨wo, rfl⟩ : ∃ y : World, y = wr := ⟨_, rfl⟩
    have hBo : w.heap.size + 1 ≤ wo.heap.size := Nat.le_trans hBW hb0.size
    by_cases hlt : x < n
    · have e0o := hE.out wo hb0
      obtain ⟨bM, oM, dr, mr, ha1, hcr, hir, _⟩ := hR.at (w' := wo) (k := x) (by rw [hMl]; exact hlt)
      cases ha1
      rw [hM.rows x hlt] at hcr hir
      go_upto_region 6 with fail
      have own1 : Own (wo.alloc (.cells #[] 3)) (w.heap.size + 1) (intRowOf 3 (.slice (some ⟨wo.heap.size, 0, none⟩) 0 0) (uniRow f x 0) :: (rowsOf 24 3 (.slice d0 x m0) vs (uniTab f n x) ++ [])) := by
        have h := hown.lit 3 1 0 #[] hBo (by unfold maxLen; omega) rfl
        exact h
      have hb1 : Below (w.heap.size + 1) W (wo.alloc (.cells #[] 3)) := hb0.alloc hBo _
      generalize wo.alloc (.cells #[] 3) = w1 at *
      replace hvs := hid hvs
      go_upto_region 7 with fail
      go_loopw [6, 23] (fun v j wr => ∃ y : Nat, y ≤ n ∧ j = .int .i64 y ∧ Below (w.heap.size + 1) W wr ∧ Own wr (w.heap.size + 1) (intRowOf 3 v (uniRow f x y) :: (rowsOf 24 3 (.slice d0 x m0) vs (uniTab f n x) ++ []))) (fun _ j _ => n - (intOf j).toNat)
      case atStart => exact ⟨0, by omega, rfl, hb1, own1⟩
      case round =>
        obtain ⟨y, hy, rfl, hb2, hown2⟩ := hrel
        obtain ⟨vd, vm, rfl⟩ := ow_ints hown2
        obtain ⟨wq, rfl⟩ : ∃ y : World, y = wr := ⟨_, rfl⟩
        have hBq : w.heap.size + 1 ≤ wq.heap.size := Nat.le_trans hBW hb2.size
        have hly := hid (uniRow_length f x y)
        have hys := hid (uniRow_succ f x y)
        by_cases hlty : y < n
        · have e0q := hE.out wq hb2
          obtain ⟨bd, od, hda, hcy⟩ := hir.at (w' := wq) (k := y) (by rw [hM.rows x hlt]; exact hlty)
          cases hda
          rw [hM.at_ x y hlt hlty] at hcy
          have hfv := hid (show f x y = if edV pa le n n (-1) x y < 0 then 1073741824 else edV pa le n n (-1) x y by rw [hf.out])
          generalize edV pa le n n (-1) x y = dv at *
          by_cases hneg : dv < 0
          · have hfv2 := hid (hfv.out.trans (if_pos hneg))
            go_wp2_with (at_builtin; refine wpList_append1 rfl _ _ _ rfl elemInt rfl hown2 hBq rfl rfl (by have := hly.out; omega) (by have := hly.out; omega) ?_; intro v1 w5 ho hb5)
            go_roundw
            case rel => exact ⟨y + 1, by omega, by go_num, hb2.trans hb5, by rw [hys.out, hfv2.out]; exact ow_snoc ho rfl⟩
            case measure => simp [intOf]; omega
          · have hfv2 := hid (hfv.out.trans (if_neg hneg))
            go_wp2_with (at_builtin; refine wpList_append1 rfl _ _ _ rfl elemInt rfl hown2 hBq rfl rfl (by have := hly.out; omega) (by have := hly.out; omega) ?_; intro v1 w5 ho hb5)
            go_roundw
            case rel => exact ⟨y + 1, by omega, by go_num, hb2.trans hb5, by rw [hys.out, hfv2.out]; exact ow_snoc ho rfl⟩
            case measure => simp [intOf]; omega
        · have hyn : y = n := by omega
          have hts := hid (show uniTab f n (x + 1) = uniTab f n x ++ [uniRow f x y] by rw [uniTab_succ, hyn])
          have hlt' := hid (uniTab_length f n x)
          replace hyn := hid hyn
          have hout := rw_out (A := []) hown2
          rw [hvs.out] at hout
          go_wp2_with (at_builtin; refine wpList_append1 rfl _ _ _ rfl elemInts rfl hout hBq rfl rfl (by omega) (by omega) ?_; intro v1 w5 ho hb5; obtain ⟨vd1, vm1, hv1⟩ := ho.form; (obtain rfl : v1 = .slice vd1 (x + 1) vm1 := hv1))
          rw [← hvs.out] at ho
          have hin := rw_in (A := []) ho (by rw [hvs.out, hlt'.out])
          rw [hvs.out] at hin
          go_roundw
          case rel => exact ⟨x + 1, by omega, by go_num, hb2.trans hb5, vd1, vm1, vs ++ [.slice vd (uniRow f x y).length vm], rfl, by rw [List.length_append, hvs.out]; rfl, by rw [hts.out]; exact hin⟩
          case measure => simp [intOf]; omega
    · obtain rfl : n = x := by omega
      have hJ0 : FJ (trD pa le n) n 1073741824 0 0 0 (uniTab f n n) := FJ.begin hT hl (by omega) ((tb_tab (f := f)).congr fun u v hu hv => by
        rw [hf.out]
        have := edV_far (pa := pa) (le := le) (n := n) (far := 1073741824) hT hl hu hv
        exact this)
      have hu0 := hid (show (uniTab f n n).length = n by simp [uniTab])
      replace hvs := hid hvs
      replace hJ0 := hid hJ0
      have hTm := hid (trD_mt hT)
      have hfacts := hid (show ∀ u N far y x z, FJ (trD pa le n) n far y x z N → Own u (w.heap.size + 1) (rowsOf 24 3 (.slice d0 n m0) vs N ++ []) → ∀ x, x < n → ∃ g gx mx, d0 = some ⟨g, 0, none⟩ ∧ u.cell? ⟨g, x, none⟩ = some (.slice (some ⟨gx, 0, none⟩) n mx) ∧ vs[x]? = some (.slice (some ⟨gx, 0, none⟩) n mx) ∧ w.heap.size + 1 ≤ gx ∧ (row N x).length = n ∧ N.length = n ∧ (∀ z, z < n → u.cell? ⟨gx, z, none⟩ = some (.int .i64 (nth (row N x) z)) ∧ u.frozen? ⟨gx, z, none⟩ = false) from fun u N far _ _ _ hN h x hx => by
        have hl := hN.rows x hx
        obtain ⟨gx, mx, hu, hBg⟩ := rw_form h (by rw [hvs.out, hN.len]) (j := x) (by rw [hN.len]; exact hx) (by rw [hl]; omega)
        obtain ⟨g, rfl⟩ := rw_addr h hvs.out (by omega)
        rw [hl] at hu
        exact ⟨g, gx, mx, rfl, (rw_cell h hvs.out hu).1, hu, hBg, hl, hN.len, fun z hz => rw_at h (by rw [hN.len]; exact hx) hu hl hz⟩)
      go_upto_region 16 with fail
      go_loopw [41] (fun i wr => ∃ y : Nat, y ≤ n ∧ i = .int .i64 y ∧ Below (w.heap.size + 1) W wr ∧ ∃ N, Hid (FJ (trD pa le n) n 1073741824 y 0 0 N) ∧ Own wr (w.heap.size + 1) (rowsOf 24 3 (.slice d0 n m0) vs N ++ [])) (fun i _ => n - (intOf i).toNat)
      case atStart => exact ⟨0, by omega, rfl, hb0, _, hJ0, hown⟩
      case round =>
        clear hown hb0 hJ0
        obtain ⟨y, hy, rfl, hb0, N, hJ, hown⟩ := hrel
        obtain ⟨wo, rfl⟩ : ∃ y : World, y = wr := ⟨_, rfl⟩
        by_cases hlty : y < n
        · go_upto_region 19 with fail
          go_loopw [46] (fun i wr => ∃ x : Nat, x ≤ n ∧ i = .int .i64 x ∧ Below (w.heap.size + 1) W wr ∧ ∃ N, Hid (FJ (trD pa le n) n 1073741824 y x 0 N) ∧ Own wr (w.heap.size + 1) (rowsOf 24 3 (.slice d0 n m0) vs N ++ [])) (fun i _ => n - (intOf i).toNat)
          case atStart => exact ⟨0, by omega, rfl, hb0, _, hJ, hown⟩
          case round =>
            clear hown hb0 hJ
            obtain ⟨x, hx, rfl, hb0, N, hJ, hown⟩ := hrel
            obtain ⟨wo, rfl⟩ : ∃ y : World, y = wr := ⟨_, rfl⟩
            by_cases hltx : x < n
            · go_upto_region 22 with fail
              go_loopw [51] (fun i wr => ∃ z : Nat, z ≤ n ∧ i = .int .i64 z ∧ Below (w.heap.size + 1) W wr ∧ ∃ N, Hid (FJ (trD pa le n) n 1073741824 y x z N) ∧ Own wr (w.heap.size + 1) (rowsOf 24 3 (.slice d0 n m0) vs N ++ [])) (fun i _ => n - (intOf i).toNat)
              case atStart => exact ⟨0, by omega, rfl, hb0, _, hJ, hown⟩
              case round =>
                clear hown hb0 hJ
                obtain ⟨z, hz, rfl, hb0, N, hJ, hown⟩ := hrel
                obtain ⟨wo, rfl⟩ : ∃ y : World, y = wr := ⟨_, rfl⟩
                by_cases hltz : z < n
                · have hB0 : w.heap.size + 1 ≤ wo.heap.size := Nat.le_trans hBW hb0.size
                  obtain ⟨g, gx, mx, rfl, tx, hux, hBx, hlx, hNn, hcx⟩ := hfacts.out _ N _ _ _ _ hJ.out hown x hltx
                  obtain ⟨g', gy, my, hg', ty, huy, hBy, hlyy, _, hcy⟩ := hfacts.out _ N _ _ _ _ hJ.out hown y hlty
                  cases hg'
                  obtain ⟨cxz, fxz⟩ := hcx z hltz
                  obtain ⟨cxy, _⟩ := hcx y hlty
                  obtain ⟨cyz, _⟩ := hcy z hltz
                  have hst := hid (hJ.out.step hTm.out hlty hltx hltz rfl)
                  have b1 := hJ.out.bnd x z hltx hltz
                  have b2 := hJ.out.bnd x y hltx hlty
                  have b3 := hJ.out.bnd y z hlty hltz
                  generalize nth (row N x) z = p3 at *
                  generalize nth (row N x) y = p1 at *
                  generalize nth (row N y) z = p2 at *
                  obtain ⟨D, hD⟩ : ∃ D, D = min p3 (p1 + p2) := ⟨_, rfl⟩
                  rw [← hD] at hst
                  replace hD := hid hD
                  clear hcx hcy hJ
                  go_upto_region 24 with fail
                  have ed : Ext wo wo.drew := inferInstance
                  have ownd := hown.ext (w' := wo.drew) (e := ed)
                  have hbd : Below (w.heap.size + 1) W wo.drew := hb0.trans (ed.below.mono hB0)
                  have txd := ed.cell tx
                  have tyd := ed.cell ty
                  have c1d := ed.cell cxy
                  have c2d := ed.cell cyz
                  have c3d := ed.cell cxz
                  have f3d := ed.frozen cxz fxz
                  clear tx ty cxy cyz cxz fxz hown hb0
                  refine wp_region_E_drew (X := fun i => i == 29) (S := fun u => u.cell? ⟨g, x, none⟩ = some (.slice (some ⟨gx, 0, none⟩) n mx) ∧ u.cell? ⟨g, y, none⟩ = some (.slice (some ⟨gy, 0, none⟩) n my) ∧ u.cell? ⟨gx, z, none⟩ = some (.int .i64 p3) ∧ u.cell? ⟨gx, y, none⟩ = some (.int .i64 p1) ∧ u.cell? ⟨gy, z, none⟩ = some (.int .i64 p2)) (by kernel_rfl) ⟨txd, tyd, c3d, c1d, c2d⟩ (fun hHeld0 => ?_)
                  generalize wo.drew = wd at *
                  refine wpAnyE_take (i := 0) (v := .slice (some ⟨g, 0, none⟩) n m0) rfl (by kernel_rfl) (by kernel_rfl) (by kernel_rfl) (fun _ _ _ h => h) (Or.inl ⟨by rfl, by intro wx hx; go_simp⟩) (by assumption) ?_
                  try simp only [List.getElem_toArray, List.getElem_cons_zero, Act.put, List.setIfInBounds_toArray, List.set_cons_zero, List.set_cons_succ]
                  refine wpAnyE_take (i := 1) (v := .int .i64 x) rfl (by kernel_rfl) (by kernel_rfl) (by kernel_rfl) (fun _ _ _ h => h) (Or.inl ⟨by rfl, by intro wx hx; go_simp⟩) (by assumption) ?_
                  try simp only [List.getElem_toArray, List.getElem_cons_succ, List.getElem_cons_zero, Act.put, List.setIfInBounds_toArray, List.set_cons_zero, List.set_cons_succ]
                  refine wpAnyE_take (i := 2) (v := .pointer (some ⟨g, x, none⟩)) rfl (by kernel_rfl) (by kernel_rfl) (by kernel_rfl) (fun _ _ _ h => h) (Or.inl ⟨by rfl, by intro wx hx; go_simp⟩) (by assumption) ?_
                  try simp only [List.getElem_toArray, List.getElem_cons_succ, List.getElem_cons_zero, Act.put, List.setIfInBounds_toArray, List.set_cons_zero, List.set_cons_succ]
                  refine wpAnyE_take (i := 3) (v := .slice (some ⟨gx, 0, none⟩) n mx) rfl (by kernel_rfl) (by kernel_rfl) (by kernel_rfl) (fun _ _ _ h => h) (Or.inl ⟨by rfl, by intro wx hx; obtain ⟨_, _, _, _, _⟩ := hx; go_simp⟩) (by assumption) ?_
                  try simp only [List.getElem_toArray, List.getElem_cons_succ, List.getElem_cons_zero, Act.put, List.setIfInBounds_toArray, List.set_cons_zero, List.set_cons_succ]
                  refine wpAnyE_take (i := 4) (v := .int .i64 z) rfl (by kernel_rfl) (by kernel_rfl) (by kernel_rfl) (fun _ _ _ h => h) (Or.inl ⟨by rfl, by intro wx hx; go_simp⟩) (by assumption) ?_
                  try simp only [List.getElem_toArray, List.getElem_cons_succ, List.getElem_cons_zero, Act.put, List.setIfInBounds_toArray, List.set_cons_zero, List.set_cons_succ]
                  refine wpAnyE_take (i := 5) (v := .slice (some ⟨g, 0, none⟩) n m0) rfl (by kernel_rfl) (by kernel_rfl) (by kernel_rfl) (fun _ _ _ h => h) (Or.inl ⟨by rfl, by intro wx hx; go_simp⟩) (by assumption) ?_
                  try simp only [List.getElem_toArray, List.getElem_cons_succ, List.getElem_cons_zero, Act.put, List.setIfInBounds_toArray, List.set_cons_zero, List.set_cons_succ]
                  refine wpAnyE_take (i := 6) (v := .int .i64 x) rfl (by kernel_rfl) (by kernel_rfl) (by kernel_rfl) (fun _ _ _ h => h) (Or.inl ⟨by rfl, by intro wx hx; go_simp⟩) (by assumption) ?_
                  try simp only [List.getElem_toArray, List.getElem_cons_succ, List.getElem_cons_zero, Act.put, List.setIfInBounds_toArray, List.set_cons_zero, List.set_cons_succ]
                  refine wpAnyE_take (i := 7) (v := .pointer (some ⟨g, x, none⟩)) rfl (by kernel_rfl) (by kernel_rfl) (by kernel_rfl) (fun _ _ _ h => h) (Or.inl ⟨by rfl, by intro wx hx; go_simp⟩) (by assumption) ?_
                  try simp only [List.getElem_toArray, List.getElem_cons_succ, List.getElem_cons_zero, Act.put, List.setIfInBounds_toArray, List.set_cons_zero, List.set_cons_succ]
                  refine wpAnyE_take (i := 8) (v := .slice (some ⟨gx, 0, none⟩) n mx) rfl (by kernel_rfl) (by kernel_rfl) (by kernel_rfl) (fun _ _ _ h => h) (Or.inl ⟨by rfl, by intro wx hx; obtain ⟨_, _, _, _, _⟩ := hx; go_simp⟩) (by assumption) ?_
                  try simp only [List.getElem_toArray, List.getElem_cons_succ, List.getElem_cons_zero, Act.put, List.setIfInBounds_toArray, List.set_cons_zero, List.set_cons_succ]
                  refine wpAnyE_take (i := 9) (v := .int .i64 z) rfl (by kernel_rfl) (by kernel_rfl) (by kernel_rfl) (fun _ _ _ h => h) (Or.inl ⟨by rfl, by intro wx hx; go_simp⟩) (by assumption) ?_
                  try simp only [List.getElem_toArray, List.getElem_cons_succ, List.getElem_cons_zero, Act.put, List.setIfInBounds_toArray, List.set_cons_zero, List.set_cons_succ]
                  refine wpAnyE_take (i := 10) (v := .pointer (some ⟨gx, z, none⟩)) rfl (by kernel_rfl) (by kernel_rfl) (by kernel_rfl) (fun _ _ _ h => h) (Or.inl ⟨by rfl, by intro wx hx; go_simp⟩) (by assumption) ?_
                  try simp only [List.getElem_toArray, List.getElem_cons_succ, List.getElem_cons_zero, Act.put, List.setIfInBounds_toArray, List.set_cons_zero, List.set_cons_succ]
                  refine wpAnyE_take (i := 11) (v := .int .i64 p3) rfl (by kernel_rfl) (by kernel_rfl) (by kernel_rfl) (fun _ _ _ h => h) (Or.inl ⟨by rfl, by intro wx hx; obtain ⟨_, _, _, _, _⟩ := hx; go_simp⟩) (by assumption) ?_
                  try simp only [List.getElem_toArray, List.getElem_cons_succ, List.getElem_cons_zero, Act.put, List.setIfInBounds_toArray, List.set_cons_zero, List.set_cons_succ]
                  refine wpAnyE_take (i := 12) (v := .slice (some ⟨g, 0, none⟩) n m0) rfl (by kernel_rfl) (by kernel_rfl) (by kernel_rfl) (fun _ _ _ h => h) (Or.inl ⟨by rfl, by intro wx hx; go_simp⟩) (by assumption) ?_
                  try simp only [List.getElem_toArray, List.getElem_cons_succ, List.getElem_cons_zero, Act.put, List.setIfInBounds_toArray, List.set_cons_zero, List.set_cons_succ]
                  refine wpAnyE_take (i := 13) (v := .int .i64 x) rfl (by kernel_rfl) (by kernel_rfl) (by kernel_rfl) (fun _ _ _ h => h) (Or.inl ⟨by rfl, by intro wx hx; go_simp⟩) (by assumption) ?_
                  try simp only [List.getElem_toArray, List.getElem_cons_succ, List.getElem_cons_zero, Act.put, List.setIfInBounds_toArray, List.set_cons_zero, List.set_cons_succ]
                  refine wpAnyE_take (i := 14) (v := .pointer (some ⟨g, x, none⟩)) rfl (by kernel_rfl) (by kernel_rfl) (by kernel_rfl) (fun _ _ _ h => h) (Or.inl ⟨by rfl, by intro wx hx; go_simp⟩) (by assumption) ?_
                  try simp only [List.getElem_toArray, List.getElem_cons_succ, List.getElem_cons_zero, Act.put, List.setIfInBounds_toArray, List.set_cons_zero, List.set_cons_succ]
                  refine wpAnyE_take (i := 15) (v := .slice (some ⟨gx, 0, none⟩) n mx) rfl (by kernel_rfl) (by kernel_rfl) (by kernel_rfl) (fun _ _ _ h => h) (Or.inl ⟨by rfl, by intro wx hx; obtain ⟨_, _, _, _, _⟩ := hx; go_simp⟩) (by assumption) ?_
                  try simp only [List.getElem_toArray, List.getElem_cons_succ, List.getElem_cons_zero, Act.put, List.setIfInBounds_toArray, List.set_cons_zero, List.set_cons_succ]
                  refine wpAnyE_take (i := 16) (v := .int .i64 y) rfl (by kernel_rfl) (by kernel_rfl) (by kernel_rfl) (fun _ _ _ h => h) (Or.inl ⟨by rfl, by intro wx hx; go_simp⟩) (by assumption) ?_
                  try simp only [List.getElem_toArray, List.getElem_cons_succ, List.getElem_cons_zero, Act.put, List.setIfInBounds_toArray, List.set_cons_zero, List.set_cons_succ]
                  refine wpAnyE_take (i := 17) (v := .pointer (some ⟨gx, y, none⟩)) rfl (by kernel_rfl) (by kernel_rfl) (by kernel_rfl) (fun _ _ _ h => h) (Or.inl ⟨by rfl, by intro wx hx; go_simp⟩) (by assumption) ?_
                  try simp only [List.getElem_toArray, List.getElem_cons_succ, List.getElem_cons_zero, Act.put, List.setIfInBounds_toArray, List.set_cons_zero, List.set_cons_succ]
                  refine wpAnyE_take (i := 18) (v := .int .i64 p1) rfl (by kernel_rfl) (by kernel_rfl) (by kernel_rfl) (fun _ _ _ h => h) (Or.inl ⟨by rfl, by intro wx hx; obtain ⟨_, _, _, _, _⟩ := hx; go_simp⟩) (by assumption) ?_
                  try simp only [List.getElem_toArray, List.getElem_cons_succ, List.getElem_cons_zero, Act.put, List.setIfInBounds_toArray, List.set_cons_zero, List.set_cons_succ]
                  refine wpAnyE_take (i := 19) (v := .slice (some ⟨g, 0, none⟩) n m0) rfl (by kernel_rfl) (by kernel_rfl) (by kernel_rfl) (fun _ _ _ h => h) (Or.inl ⟨by rfl, by intro wx hx; go_simp⟩) (by assumption) ?_
                  try simp only [List.getElem_toArray, List.getElem_cons_succ, List.getElem_cons_zero, Act.put, List.setIfInBounds_toArray, List.set_cons_zero, List.set_cons_succ]
                  refine wpAnyE_take (i := 20) (v := .int .i64 y) rfl (by kernel_rfl) (by kernel_rfl) (by kernel_rfl) (fun _ _ _ h => h) (Or.inl ⟨by rfl, by intro wx hx; go_simp⟩) (by assumption) ?_
                  try simp only [List.getElem_toArray, List.getElem_cons_succ, List.getElem_cons_zero, Act.put, List.setIfInBounds_toArray, List.set_cons_zero, List.set_cons_succ]
                  refine wpAnyE_take (i := 21) (v := .pointer (some ⟨g, y, none⟩)) rfl (by kernel_rfl) (by kernel_rfl) (by kernel_rfl) (fun _ _ _ h => h) (Or.inl ⟨by rfl, by intro wx hx; go_simp⟩) (by assumption) ?_
                  try simp only [List.getElem_toArray, List.getElem_cons_succ, List.getElem_cons_zero, Act.put, List.setIfInBounds_toArray, List.set_cons_zero, List.set_cons_succ]
                  refine wpAnyE_take (i := 22) (v := .slice (some ⟨gy, 0, none⟩) n my) rfl (by kernel_rfl) (by kernel_rfl) (by kernel_rfl) (fun _ _ _ h => h) (Or.inl ⟨by rfl, by intro wx hx; obtain ⟨_, _, _, _, _⟩ := hx; go_simp⟩) (by assumption) ?_
                  try simp only [List.getElem_toArray, List.getElem_cons_succ, List.getElem_cons_zero, Act.put, List.setIfInBounds_toArray, List.set_cons_zero, List.set_cons_succ]
                  refine wpAnyE_take (i := 23) (v := .int .i64 z) rfl (by kernel_rfl) (by kernel_rfl) (by kernel_rfl) (fun _ _ _ h => h) (Or.inl ⟨by rfl, by intro wx hx; go_simp⟩) (by assumption) ?_
                  try simp only [List.getElem_toArray, List.getElem_cons_succ, List.getElem_cons_zero, Act.put, List.setIfInBounds_toArray, List.set_cons_zero, List.set_cons_succ]
                  refine wpAnyE_take (i := 24) (v := .pointer (some ⟨gy, z, none⟩)) rfl (by kernel_rfl) (by kernel_rfl) (by kernel_rfl) (fun _ _ _ h => h) (Or.inl ⟨by rfl, by intro wx hx; go_simp⟩) (by assumption) ?_
                  try simp only [List.getElem_toArray, List.getElem_cons_succ, List.getElem_cons_zero, Act.put, List.setIfInBounds_toArray, List.set_cons_zero, List.set_cons_succ]
                  refine wpAnyE_take (i := 25) (v := .int .i64 p2) rfl (by kernel_rfl) (by kernel_rfl) (by kernel_rfl) (fun _ _ _ h => h) (Or.inl ⟨by rfl, by intro wx hx; obtain ⟨_, _, _, _, _⟩ := hx; go_simp⟩) (by assumption) ?_
                  try simp only [List.getElem_toArray, List.getElem_cons_succ, List.getElem_cons_zero, Act.put, List.setIfInBounds_toArray, List.set_cons_zero, List.set_cons_succ]
                  refine wpAnyE_take (i := 26) (v := .int .i64 (p1 + p2)) rfl (by kernel_rfl) (by kernel_rfl) (by kernel_rfl) (fun _ _ _ h => h) (Or.inl ⟨by rfl, by intro wx hx; go_simp; exact IntWalk.i64_in _ (by omega)⟩) (by assumption) ?_
                  try simp only [List.getElem_toArray, List.getElem_cons_succ, List.getElem_cons_zero, Act.put, List.setIfInBounds_toArray, List.set_cons_zero, List.set_cons_succ]
                  refine wpAnyE_take (i := 27) (v := .int .i64 D) rfl (by kernel_rfl) (by kernel_rfl) (by kernel_rfl) (fun _ _ _ h => h) (Or.inl ⟨by rfl, by intro wx hx; rw [hD.out]; go_simp⟩) (by assumption) ?_
                  try simp only [List.getElem_toArray, List.getElem_cons_succ, List.getElem_cons_zero, Act.put, List.setIfInBounds_toArray, List.set_cons_zero, List.set_cons_succ]
                  refine wpAnyE_take (i := 28) (v := .pointer (some ⟨gx, z, none⟩)) rfl (by kernel_rfl) (by kernel_rfl) (by kernel_rfl) (fun _ _ _ h => h) (Or.inl ⟨by rfl, by intro wx hx; go_simp⟩) (by assumption) ?_
                  try simp only [List.getElem_toArray, List.getElem_cons_succ, List.getElem_cons_zero, Act.put, List.setIfInBounds_toArray, List.set_cons_zero, List.set_cons_succ]
                  refine wpAnyE_ready (rs := [29]) (by kernel_rfl) (by simp) ?_
                  refine AllReadyE.cons rfl (fun K hK => ?_) AllReadyE.nil
                  go_simp
                  refine hK.out _ _ (.inl rfl) (fun _ => ?_)
                  clear hK K
                  try simp only [List.getElem_toArray, List.getElem_cons_succ, List.getElem_cons_zero, Act.put, List.setIfInBounds_toArray, List.set_cons_zero, List.set_cons_succ]
                  refine wpAnyE_done (by kernel_rfl) ?_ _
                  have own2 := rw_put ownd (by rw [hvs.out, hNn]) (by rw [hNn]; exact hltx) hux hlx z D
                  have hb2 := hbd.setCell hBx (p := ⟨gx, z, none⟩) (.int .i64 D)
                  clear ownd hbd txd tyd c1d c2d c3d f3d hHeld0 ed
                  generalize wd.setCell ⟨gx, z, none⟩ (.int .i64 D) = w2 at *
                  go_wp2_with fail
                  go_roundw
                  case rel => exact ⟨z + 1, by omega, by go_num, hb2, _, hst, own2⟩
                  case measure => simp [intOf]; omega
                · have hzn : z = n := by omega
                  have hJ2 := hid ((hzn ▸ hJ.out : FJ (trD pa le n) n 1073741824 y x n N).row)
                  replace hzn := hid hzn
                  go_wp2_with fail
                  go_roundw
                  case rel => exact ⟨x + 1, by omega, by go_num, hb0, N, hJ2, hown⟩
                  case measure => simp [intOf]; omega
            · have hxn : x = n := by omega
              have hJ2 := hid ((hxn ▸ hJ.out : FJ (trD pa le n) n 1073741824 y n 0 N).next)
              replace hxn := hid hxn
              go_wp2_with fail
              go_roundw
              case rel => exact ⟨y + 1, by omega, by go_num, hb0, N, hJ2, hown⟩
              case measure => simp [intOf]; omega
        · have hyn : y = n := by omega
          have hF := hid ((hyn ▸ hJ.out : FJ (trD pa le n) n 1073741824 n 0 0 N).fin)
          have hNl := hid hF.out.len
          have eF := hEw.out wo hb0
          replace hyn := hid hyn
          have hown3 := hown.mono (Nat.le_succ _)
          rw [List.append_nil] at hown3
          go_wp2_with fail
          refine bodyPost_ret (v := .slice d0 n m0) (by simp [results, Try.results26, go_sem]) rfl ?_
          exact ⟨d0, m0, vs, N, by rw [hNl.out], by rw [hvs.out, hNl.out], hF.out, by rw [hNl.out]; exact hown3, eF⟩
end Go.Proofs.Ytnlbjbnjjkilhaa
