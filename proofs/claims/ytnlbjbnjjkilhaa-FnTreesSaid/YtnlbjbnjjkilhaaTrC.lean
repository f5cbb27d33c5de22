/- The least sums of ways walked with what is known of them: l6Close, l6Give. -/
import Derived.Test.YtnlbjbnjjkilhaaMtD
import Derived.Test.YtnlbjbnjjkilhaaTrQ
namespace Go.Proofs.Ytnlbjbnjjkilhaa
open Go.RowKit

/-- one step of the reference's sums -/
def clS (N : List (List Int)) (y x z : Nat) : List (List Int) :=
  if nth (row N x) y < 0 ∨ nth (row N y) z < 0 then N
  else if nth (row N x) z < 0 ∨ wrap64 (nth (row N x) y + nth (row N y) z) < nth (row N x) z then N.set x ((row N x).set z (wrap64 (nth (row N x) y + nth (row N y) z)))
  else N
theorem clS_one {N : List (List Int)} {y x z : Nat} (h : nth (row N x) y < 0) : clS N y x z = N := if_pos (.inl h)
theorem clS_two {N : List (List Int)} {y x z : Nat} (h : nth (row N y) z < 0) : clS N y x z = N := if_pos (.inr h)
theorem clS_put {N : List (List Int)} {y x z : Nat} (h1 : ¬ nth (row N x) y < 0) (h2 : ¬ nth (row N y) z < 0) (h : nth (row N x) z < 0 ∨ wrap64 (nth (row N x) y + nth (row N y) z) < nth (row N x) z) : clS N y x z = N.set x ((row N x).set z (wrap64 (nth (row N x) y + nth (row N y) z))) := by
  unfold clS
  rw [if_neg (by rintro (q | q); exact h1 q; exact h2 q), if_pos h]
theorem clS_not {N : List (List Int)} {y x z : Nat} (h3 : ¬ nth (row N x) z < 0) (h4 : ¬ wrap64 (nth (row N x) y + nth (row N y) z) < nth (row N x) z) : clS N y x z = N := by
  unfold clS
  split
  · rfl
  · rw [if_neg (by rintro (q | q); exact h3 q; exact h4 q)]
set_option maxHeartbeats 3200000 in
set_option maxRecDepth 100000 in
theorem l6CloseJ_any {v : Value} {M : List (List Int)} {J : Nat → Nat → Nat → List (List Int) → Prop} {w0 w : World} [Ext w0 w] (hm : IsMet w0 v M) (hM : MOk M) (h0 : J 0 0 0 M)
    (hst : ∀ y x z N, y < M.length → x < M.length → z < M.length → N.length = M.length → MOk N → J y x z N → J y x (z + 1) (clS N y x z))
    (hro : ∀ y x N, J y x M.length N → J y (x + 1) 0 N) (hnx : ∀ y N, J y M.length 0 N → J (y + 1) 0 0 N) :
    Calls Try.prog 30 #[v] w fun e w' => ∃ d0 m0 vs N, e = .returned (.agg #[.slice d0 (N : List (List Int)).length m0]) ∧ vs.length = N.length ∧ N.length = M.length ∧ MOk N ∧ J M.length 0 0 N ∧
      Own w' w.heap.size (rowsOf 24 3 (.slice d0 N.length m0) vs N) ∧ Ext w w' := by
  have hm' := hm
  obtain ⟨v1, rfl, hR⟩ := hm
  obtain ⟨a1, c1, rfl, l1⟩ := hR.form
  have hn7 := hM.1
  obtain ⟨n, hn⟩ : ∃ n, n = M.length := ⟨_, rfl⟩
  rw [← hn] at hn7 hst hro hnx ⊢
  replace h0 := hid h0
  replace hst := hid hst
  replace hro := hid hro
  replace hnx := hid hnx
  go_enter Try.func30, Try.ntmps30
  go_upto_region 1 with fail
  have ez : Ext w ((w.alloc (.cells #[.slice a1 M.length c1] 29)).alloc (.cells #[.slice none 0 0] 29)) := inferInstance
  have q0 : ((w.alloc (.cells #[.slice a1 M.length c1] 29)).alloc (.cells #[.slice none 0 0] 29)).cell? ⟨w.heap.size, 0, none⟩ = some (.slice a1 M.length c1) := by go_simp
  have z0 : ((w.alloc (.cells #[.slice a1 M.length c1] 29)).alloc (.cells #[.slice none 0 0] 29)).cell? ⟨w.heap.size + 1, 0, none⟩ = some (.slice none 0 0) := by go_simp
  have zf : ((w.alloc (.cells #[.slice a1 M.length c1] 29)).alloc (.cells #[.slice none 0 0] 29)).frozen? ⟨w.heap.size + 1, 0, none⟩ = false := by go_simp
  have zs : ((w.alloc (.cells #[.slice a1 M.length c1] 29)).alloc (.cells #[.slice none 0 0] 29)).heap.size = w.heap.size + 2 := by simp
  generalize (w.alloc (.cells #[.slice a1 M.length c1] 29)).alloc (.cells #[.slice none 0 0] 29) = wa at *
  obtain ⟨r, hr⟩ : ∃ r, r = w.heap.size + 1 := ⟨_, rfl⟩
  rw [← hr] at z0 zf ⊢
  replace hr := hid hr
  replace zs := hid zs
  have e0a : Ext w0 wa := Ext.trans ‹Ext w0 w› ez
  replace hn := hid hn
  go_wp2_with fail
  with_reducible refine (l6Own_any (w0 := w0) hm' (by rw [← hn.out]; omega)).mono ?_
  rintro e w1 ⟨d0, m0, vs, rfl, hvs, hown, he1⟩
  rw [← hn.out] at hvs hown q0 ⊢
  rw [zs.out] at hown
  have hB1 : w.heap.size + 2 ≤ w1.heap.size := by have := he1.size; have := zs.out; omega
  have own0 : Own (w1.alloc (.cells #[.slice d0 n m0] 29)) (w.heap.size + 2) (rowsOf 24 3 (.slice d0 n m0) vs M ++ [boxRow 29 1 w1.heap.size [.slice d0 n m0]]) := by
    have h2 := hown.lit 29 1 1 #[.slice d0 n m0] hB1 (by unfold maxLen; omega) rfl
    exact h2.perm (List.perm_append_comm (l₁ := rowsOf _ _ _ _ _) (l₂ := [_]))
  have eW : Ext w (w1.alloc (.cells #[.slice d0 n m0] 29)) := Ext.trans ez (Ext.trans he1 inferInstance)
  have e1W : Ext wa (w1.alloc (.cells #[.slice d0 n m0] 29)) := Ext.trans he1 inferInstance
  have x0 := e1W.cell z0
  have xf := e1W.frozen z0 zf
  have q1 := e1W.cell q0
  have hBW : w.heap.size + 2 ≤ (w1.alloc (.cells #[.slice d0 n m0] 29)).heap.size := Nat.le_trans hB1 (Ext.size (a := w1) inferInstance)
  obtain ⟨b, hbb⟩ : ∃ b, b = w1.heap.size := ⟨_, rfl⟩
  rw [← hbb] at own0
  go_upto_region 2 with fail
  clear z0 zf hown q0 e1W
  generalize w1.alloc (.cells #[.slice d0 n m0] 29) = W at *
  rw [← hbb]
  replace hbb := hid hbb
  replace hvs := hid hvs
  obtain ⟨B, hB⟩ : ∃ B, B = w.heap.size + 2 := ⟨_, rfl⟩
  rw [← hB] at own0 hBW
  have hrB : r < B := by have := hr.out; omega
  have hlw : w.heap.size ≤ B := by omega
  replace hB := hid hB
  have hrw := hid (show w.heap.size ≤ r by have := hr.out; omega)
  go_upto_region 3 with fail
  clear q1
  have hfacts := hid (show ∀ u N, N.length = n → MOk N → Own u B (rowsOf 24 3 (.slice d0 n m0) vs N ++ [boxRow 29 1 b [.slice d0 n m0]]) → ∀ x, x < n → ∃ g gx mx, d0 = some ⟨g, 0, none⟩ ∧ u.cell? ⟨b, 0, none⟩ = some (.slice (some ⟨g, 0, none⟩) n m0) ∧ u.cell? ⟨g, x, none⟩ = some (.slice (some ⟨gx, 0, none⟩) (row N x).length mx) ∧ vs[x]? = some (.slice (some ⟨gx, 0, none⟩) (row N x).length mx) ∧ B ≤ gx from fun u N hN hok h x hx => by
    obtain ⟨gx, mx, hu, hBg⟩ := rw_form h (by rw [hvs.out, hN]) (j := x) (by omega) (by have := (hok.at (x := x) (y := x) (by omega) (by omega)).1; omega)
    obtain ⟨g, rfl⟩ := rw_addr h hvs.out (by omega)
    exact ⟨g, gx, mx, rfl, ow_cell h (List.mem_append_right _ (List.Mem.head _)) (j := 0) (by omega), (rw_cell h hvs.out hu).1, hu, hBg⟩)
  go_wp2
  go_loopw [5] (fun i wr => ∃ y : Nat, y ≤ n ∧ i = .int .i64 y ∧ Below B W wr ∧ ∃ N, Hid (N.length = n) ∧ MOk N ∧ Hid (J y 0 0 N) ∧ Own wr B (rowsOf 24 3 (.slice d0 n m0) vs N ++ [boxRow 29 1 b [.slice d0 n m0]])) (fun i _ => n - (intOf i).toNat)
  case atStart => exact ⟨0, by omega, rfl, Below.refl _ _, M, hid hn.out.symm, hM, h0, own0⟩
  case round =>
    obtain ⟨y, hy, rfl, hb0, N, hN, hok, hJ, hown⟩ := hrel
    obtain ⟨wo, rfl⟩ : ∃ y : World, y = wr := ⟨_, rfl⟩
    by_cases hlty : y < n
    · go_wp2
      go_loopw [6] (fun i wr => ∃ x : Nat, x ≤ n ∧ i = .int .i64 x ∧ Below B W wr ∧ ∃ N, Hid (N.length = n) ∧ MOk N ∧ Hid (J y x 0 N) ∧ Own wr B (rowsOf 24 3 (.slice d0 n m0) vs N ++ [boxRow 29 1 b [.slice d0 n m0]])) (fun i _ => n - (intOf i).toNat)
      case atStart => exact ⟨0, by omega, rfl, hb0, N, hN, hok, hJ, hown⟩
      case round =>
        obtain ⟨x, hx, rfl, hb1, N1, hN1, hok1, hJ1, hown1⟩ := hrel
        obtain ⟨wp, rfl⟩ : ∃ y : World, y = wr := ⟨_, rfl⟩
        by_cases hltx : x < n
        · go_wp2
          go_loopw [7] (fun i wr => ∃ z : Nat, z ≤ n ∧ i = .int .i64 z ∧ Below B W wr ∧ ∃ N, Hid (N.length = n) ∧ MOk N ∧ Hid (J y x z N) ∧ Own wr B (rowsOf 24 3 (.slice d0 n m0) vs N ++ [boxRow 29 1 b [.slice d0 n m0]])) (fun i _ => n - (intOf i).toNat)
          case atStart => exact ⟨0, by omega, rfl, hb1, N1, hN1, hok1, hJ1, hown1⟩
          case round =>
            obtain ⟨z, hz, rfl, hb2, N2, hN2, hok2, hJ2, hown2⟩ := hrel
            obtain ⟨wq, rfl⟩ : ∃ y : World, y = wr := ⟨_, rfl⟩
            by_cases hltz : z < n
            · have hxl := hok2.at (x := x) (y := y) (by rw [hN2.out]; exact hltx) (by rw [hN2.out]; exact hlty)
              have hyl := hok2.at (x := y) (y := z) (by rw [hN2.out]; exact hlty) (by rw [hN2.out]; exact hltz)
              have hzl := hok2.at (x := x) (y := z) (by rw [hN2.out]; exact hltx) (by rw [hN2.out]; exact hltz)
              have hs := hst.out y x z N2 hlty hltx hltz hN2.out hok2 hJ2.out
              have hs1 := hid (fun (h : nth (row N2 x) y < 0) => show J y x (z + 1) N2 by rw [clS_one h] at hs; exact hs)
              have hs2 := hid (fun (h : nth (row N2 y) z < 0) => show J y x (z + 1) N2 by rw [clS_two h] at hs; exact hs)
              have hs3 := hid (fun (h1 : ¬ nth (row N2 x) y < 0) (h2 : ¬ nth (row N2 y) z < 0) (h3 : nth (row N2 x) z < 0 ∨ wrap64 (nth (row N2 x) y + nth (row N2 y) z) < nth (row N2 x) z) => show J y x (z + 1) (N2.set x ((row N2 x).set z (wrap64 (nth (row N2 x) y + nth (row N2 y) z)))) by rw [clS_put h1 h2 h3] at hs; exact hs)
              have hs4 := hid (fun (h3 : ¬ nth (row N2 x) z < 0) (h4 : ¬ wrap64 (nth (row N2 x) y + nth (row N2 y) z) < nth (row N2 x) z) => show J y x (z + 1) N2 by rw [clS_not h3 h4] at hs; exact hs)
              clear hs
              obtain ⟨g, gx, mx, rfl, tb, tx, hux, hBx⟩ := hfacts.out _ N2 hN2.out hok2 hown2 x hltx
              obtain ⟨g', gy, my, hg', _, ty, huy, hBy⟩ := hfacts.out _ N2 hN2.out hok2 hown2 y hlty
              cases hg'
              have cxy := rw_at hown2 (by rw [hN2.out]; exact hltx) hux rfl hxl.1
              have cyz := rw_at hown2 (by rw [hN2.out]; exact hlty) huy rfl hyl.1
              have cxz := rw_at hown2 (by rw [hN2.out]; exact hltx) hux rfl hzl.1
              have hok3 := fun p (hp : I64 p) => hok2.set (j := x) (by rw [hN2.out]; exact hltx) z hp
              have hN3 := fun p => (show (N2.set x ((row N2 x).set z p)).length = n by rw [List.length_set]; exact hN2.out)
              replace hok3 := hid hok3
              replace hN3 := hid hN3
              replace hux := hid hux
              replace huy := hid huy
              obtain ⟨cxy, _⟩ := cxy
              obtain ⟨cyz, _⟩ := cyz
              obtain ⟨cxz, cxzf⟩ := cxz
              have hxl1 := hxl.1
              have hyl1 := hyl.1
              have hzl1 := hzl.1
              clear hxl hyl hzl hown hown1 hok hok1
              generalize hlx : (row N2 x).length = lx at *
              generalize hly : (row N2 y).length = ly at *
              replace hlx := hid hlx
              replace hly := hid hly
              generalize nth (row N2 x) y = p1 at *
              generalize nth (row N2 y) z = p2 at *
              generalize nth (row N2 x) z = p3 at *
              by_cases h1 : p1 < 0
              · clear hok3 hN3
                go_wp2_with fail
                go_roundw
                case rel => exact ⟨z + 1, by omega, by go_num, hb2, N2, hN2, hok2, hid (hs1.out h1), hown2⟩
                case measure => simp [intOf]; omega
              · by_cases h2 : p2 < 0
                · clear hok3 hN3
                  go_wp2_with fail
                  go_roundw
                  case rel => exact ⟨z + 1, by omega, by go_num, hb2, N2, hN2, hok2, hid (hs2.out h2), hown2⟩
                  case measure => simp [intOf]; omega
                · go_upto_region 14 with (go_quiet (fail))
                  generalize hw3 : wq.drewN nq = w3
                  have ed : Ext wq w3 := hw3 ▸ inferInstance
                  have b3 : Below B W w3 := hb2.trans (ed.below.mono (Nat.le_trans hBW hb2.size))
                  have own3 := hown2.ext (w' := w3)
                  clear hw3 hown2 hb2
                  obtain ⟨D, hD⟩ : ∃ D, D = wrap64 (p1 + p2) := ⟨_, rfl⟩
                  rw [← hD]
                  have hDi : I64 D := by rw [hD]; unfold I64 wrap64; omega
                  replace hD := hid hD
                  have tb3 := ed.cell tb
                  have tx3 := ed.cell tx
                  have cz3 := ed.cell cxz
                  have cf3 := ed.frozen cxz cxzf
                  have hs3' := hid (hs3.out h1 h2)
                  clear tb tx ty cxy cyz cxz cxzf h1 h2 hs1 hs2 hs3
                  rw [← hD.out] at hs3' hs4
                  have hput := rw_put own3 (by rw [hvs.out, hN2.out]) (by rw [hN2.out]; exact hltx) hux.out hlx.out z D
                  have hok4 := hok3.out D hDi
                  have hN4 := hid (hN3.out D)
                  have b4 := b3.setCell hBx (p := ⟨gx, z, none⟩) (.int .i64 D)
                  by_cases h3 : p3 < 0
                  · go_wp2_with fail
                    go_roundw
                    case rel => exact ⟨z + 1, by omega, by go_num, b4, _, hN4, hok4, hid (hs3'.out (.inl h3)), hput⟩
                    case measure => simp [intOf]; omega
                  · by_cases h4 : D < p3
                    · go_wp2_with fail
                      go_roundw
                      case rel => exact ⟨z + 1, by omega, by go_num, b4, _, hN4, hok4, hid (hs3'.out (.inr h4)), hput⟩
                      case measure => simp [intOf]; omega
                    · clear hput b4
                      go_wp2_with fail
                      go_roundw
                      case rel => exact ⟨z + 1, by omega, by go_num, b3, N2, hN2, hok2, hid (hs4.out h3 h4), own3⟩
                      case measure => simp [intOf]; omega
            · have hzn : z = n := by omega
              replace hzn := hid hzn
              go_wp2_with fail
              go_roundw
              case rel => exact ⟨x + 1, by omega, by go_num, hb2, N2, hN2, hok2, hid (hro.out y x N2 (hzn.out ▸ hJ2.out)), hown2⟩
              case measure => simp [intOf]; omega
        · have hxn : x = n := by omega
          replace hxn := hid hxn
          go_wp2_with fail
          go_roundw
          case rel => exact ⟨y + 1, by omega, by go_num, hb1, N1, hN1, hok1, hid (hnx.out y N1 (hxn.out ▸ hJ1.out)), hown1⟩
          case measure => simp [intOf]; omega
    · have hyn : y = n := by omega
      have tb : wo.cell? ⟨b, 0, none⟩ = some (.slice d0 n m0) := ow_cell hown (List.mem_append_right _ (List.Mem.head _)) (j := 0) (by omega)
      have xr : wo.cell? ⟨r, 0, none⟩ = some (.slice none 0 0) := (hb0.cell (p := ⟨r, 0, none⟩) hrB).trans x0
      have xrf : wo.frozen? ⟨r, 0, none⟩ = false := (hb0.frozen (p := ⟨r, 0, none⟩) hrB).trans xf
      have hset : (wo.setCell ⟨r, 0, none⟩ (.slice d0 n m0)).cell? ⟨r, 0, none⟩ = some (.slice d0 n m0) := by go_simp
      have hown3 := (hown.left.setBelow (p := ⟨r, 0, none⟩) hrB (.slice d0 n m0)).mono hlw
      have eF : Ext w (wo.setCell ⟨r, 0, none⟩ (.slice d0 n m0)) := ⟨eW.below.trans ((hb0.mono hlw).setCell hrw.out _)⟩
      replace hyn := hid hyn
      go_wp2
      refine bodyPost_ret (v := .agg #[.slice d0 n m0]) (by simp [results, Try.results30, go_sem, hset]) rfl ?_
      exact ⟨d0, m0, vs, N, by rw [hN.out], by rw [hvs.out, hN.out], hN.out, hok, hyn.out ▸ hJ.out, by rw [hN.out]; exact hown3, eF⟩
end Go.Proofs.Ytnlbjbnjjkilhaa
