/- The least costs of the rest, the reference's. -/
import Derived.Test.YtmgcfnciejfpbaaGreatLsI
import Derived.Test.YtmgcfnciejfpbaaGreatTbs
namespace Go.Proofs.YtmgcfnciejfpbaaGreat
open Go.RowKit

/-- the table with its last s rows made, the others zero -/
def reTab (M P : List (List Int)) (X : List Int) (s : Nat) : List (List Int) := (List.range (X.length + 1)).map fun j => if X.length + 1 ≤ j + s then rsD M P X (X.length - j) else List.replicate P.length 0
theorem reTab_len (M P : List (List Int)) (X : List Int) (s : Nat) : (reTab M P X s).length = X.length + 1 := by simp [reTab]
theorem reTab_row {M P : List (List Int)} {X : List Int} {s j : Nat} (h : j ≤ X.length) (h2 : X.length + 1 ≤ j + s) : row (reTab M P X s) j = rsD M P X (X.length - j) := by
  simp [reTab, row, show j < X.length + 1 by omega, h2]
theorem reTab_row0 {M P : List (List Int)} {X : List Int} {s j : Nat} (h : j + s = X.length) : row (reTab M P X s) j = List.replicate P.length 0 := by
  simp [reTab, row, show j < X.length + 1 by omega, show ¬ X.length + 1 ≤ j + s by omega]
theorem reTab_one (M P : List (List Int)) (X : List Int) : List.replicate (X.length + 1) (List.replicate P.length 0) = reTab M P X 1 := by
  refine List.ext_getElem (by simp [reTab]) fun j h1 h2 => ?_
  have hj : j < X.length + 1 := by simpa using h1
  simp only [reTab, List.getElem_map, List.getElem_range, List.getElem_replicate]
  by_cases e : X.length + 1 ≤ j + 1
  · rw [if_pos e, rs_zeros M P X, show X.length - j = 0 by omega]
  · rw [if_neg e]
theorem reTab_all (M P : List (List Int)) (X : List Int) : reTab M P X (X.length + 1) = rsTab M P X (X.length + 1) := by
  refine List.ext_getElem (by simp [reTab, rsTab]) fun j h1 h2 => ?_
  simp only [reTab, rsTab, List.getElem_map, List.getElem_range]
  rw [if_pos (by omega), if_pos (by omega)]
theorem reTab_next {M P : List (List Int)} {X : List Int} {s j : Nat} (h : j + s = X.length) : (reTab M P X s).set j (rsD M P X (X.length - j)) = reTab M P X (s + 1) := by
  refine List.ext_getElem (by simp [reTab]) fun i h1 h2 => ?_
  rw [List.getElem_set]
  by_cases e : j = i
  · subst e
    simp [reTab, show X.length + 1 ≤ j + (s + 1) by omega]
  · rw [if_neg e]
    simp only [reTab, List.getElem_map, List.getElem_range]
    by_cases e2 : X.length + 1 ≤ i + s
    · rw [if_pos e2, if_pos (by omega)]
    · rw [if_neg e2, if_neg (by omega)]
theorem set_row_same {T : List (List Int)} {j : Nat} (h : j < T.length) : T.set j (row T j) = T := by
  rw [row_get h, List.set_getElem_self]
theorem re_fill {M P : List (List Int)} {X : List Int} {s j : Nat} (h : j + s = X.length) : reTab M P X s = (reTab M P X s).set j (prt (rsD M P X (X.length - j)) P.length 0) := by
  rw [prt_zero, ← reTab_row0 (M := M) (P := P) h, set_row_same (by rw [reTab_len]; omega)]
theorem rsT_ok {M : List (List Int)} {a X : List Int} (h : srvB M a X = true) : ShortRows (rsTab M (confs M.length a.length 0) X (X.length + 1)).length ∧ (∀ r ∈ rsTab M (confs M.length a.length 0) X (X.length + 1), Short r.length) ∧ ∀ r ∈ rsTab M (confs M.length a.length 0) X (X.length + 1), ∀ x ∈ r, I64 x := by
  obtain ⟨hd, hk, ha, hX, hl⟩ := srv_all h
  have h216 := confs_216 (n := M.length) (k := a.length) (met_len (srvB_iff.1 h).1).2 hk.2
  have hrw : ∀ r ∈ rsTab M (confs M.length a.length 0) X (X.length + 1), ∃ j, j ≤ X.length ∧ r = rsD M (confs M.length a.length 0) X (X.length - j) := fun r hr => by
    obtain ⟨j, hj, rfl⟩ := mem_iff_row.1 hr
    rw [rsTab_len] at hj
    exact ⟨j, by omega, rsTab_row (by omega) (by omega)⟩
  refine ⟨by unfold ShortRows; rw [rsTab_len]; omega, fun r hr => ?_, fun r hr => ?_⟩
  · obtain ⟨j, hj, rfl⟩ := hrw r hr
    have := rs_len h (d := X.length - j) (by omega)
    unfold Short
    omega
  · obtain ⟨j, hj, rfl⟩ := hrw r hr
    exact rs_i64 h (d := X.length - j) (by omega)

set_option maxHeartbeats 3200000 in
set_option maxRecDepth 100000 in
theorem l7Rest_any {v vP vX : Value} {M : List (List Int)} {a X : List Int} {w0 w : World} [Ext w0 w] (hm : IsMet w0 v M) (hP : IsRows w0 vP (confs M.length a.length 0)) (hXi : IsInts w0 vX X) (hS : srvB M a X = true) :
    Calls Tryz.prog 111 #[v, vP, vX] w fun e w' => ∃ u, e = .returned u ∧ Tab w' w.heap.size u (rsTab M (confs M.length a.length 0) X (X.length + 1)) [] ∧ Ext w w' := by
  have hX' := hXi
  obtain ⟨v1, rfl, hR⟩ := hm
  obtain ⟨a1, c1, rfl, l1⟩ := hR.form
  obtain ⟨aP, cP, rfl, lP⟩ := hP.form
  obtain ⟨aX, mX, rfl, lX⟩ := hXi.form
  have x0 : (w.alloc (.cells #[.slice a1 M.length c1] 26)).cell? ⟨w.heap.size, 0, none⟩ = some (.slice a1 M.length c1) := by go_simp
  have hrg := hid (fun d (hd : d ≤ X.length) => rs_good hS d hd)
  obtain ⟨hd, hk, _, hXr, hl60⟩ := srv_all hS
  have hM := (srvB_iff.1 hS).1
  have hMl := met_len hM
  have hMr := hid (fun (x : Nat) (hx : x < M.length) => met_row hM hx)
  have h216 := confs_216 hMl.2 hk.2
  have hcp := confs_pos (k := a.length) hMl.1
  have hXp := hid (show Pts M.length X from fun x hx => by
    obtain ⟨j, hj, rfl⟩ := mem_iff_nth.1 hx
    exact hXr j hj)
  have hPm := hid (show ∀ i, i < (confs M.length a.length 0).length → (row (confs M.length a.length 0) i).length = a.length ∧ Pts M.length (row (confs M.length a.length 0) i) from fun i hi => by
    obtain ⟨h1, h2, _⟩ := row_conf hi
    exact ⟨h1, h2⟩)
  have hSw := hid (show ∀ i s (r : Int), i < (confs M.length a.length 0).length → s < a.length → 0 ≤ r ∧ r < (M.length : Int) → sortL ((row (confs M.length a.length 0) i).set s r) ∈ confs M.length a.length 0 from fun i s r hi hs hr => (sw_conf hi hs hr).1)
  have hNx := hid (show ∀ j, j < X.length → ∀ i, i < (confs M.length a.length 0).length → snAt M (confs M.length a.length 0) (rsD M (confs M.length a.length 0) X (X.length - (j + 1))) (nth X j) i a.length = nth (rsD M (confs M.length a.length 0) X (X.length - j)) i from fun j hj i hi => by
    have hg := hrg.out (X.length - (j + 1)) (by omega)
    rw [rsD_step hj, wnx_at (by rw [hg.1.1]; exact hi)]
    exact next_eq hd hk.1 hk.2 hg.1 (fun q hq => ⟨(hg.2 q hq).1, by have := (hg.2 q hq).2; omega⟩) hd.pos hi (hXr j hj))
  have hds := hid hd
  clear hd hXr hM
  replace hS := hid hS
  obtain ⟨P, hPd⟩ : ∃ p, p = confs M.length a.length 0 := ⟨_, rfl⟩
  rw [← hPd] at hrg h216 hcp hPm hSw hNx hP lP ⊢
  replace hPd := hid hPd
  obtain ⟨k, hkd⟩ : ∃ k, k = a.length := ⟨_, rfl⟩
  rw [← hkd] at hk hPm hSw hNx
  replace hkd := hid hkd
  go_enter Tryz.func111, Tryz.ntmps111
  go_upto_region 1 with fail
  have eW : Ext w (w.alloc (.cells #[.slice a1 M.length c1] 26)) := inferInstance
  generalize w.alloc (.cells #[.slice a1 M.length c1] 26) = W at *
  obtain ⟨bx, hbx⟩ : ∃ b, b = w.heap.size := ⟨_, rfl⟩
  rw [← hbx] at x0 ⊢
  replace hbx := hid hbx
  have e0W : Ext w0 W := Ext.trans ‹Ext w0 w› eW
  obtain ⟨B, hB⟩ : ∃ b, b = W.heap.size := ⟨_, rfl⟩
  have hEx := hid (show ∀ u, Below B W u → Ext W u from fun u h => ⟨by rw [← hB]; exact h⟩)
  have hbB := hid (show bx ≤ B by rw [hB, hbx.out]; exact eW.size)
  have hBl := hid (show ∀ u, Ext W u → B ≤ u.heap.size from fun u e => by rw [hB]; exact e.size)
  have tab0 : Tab (W.alloc (.cells #[] 27)) B (.slice (some ⟨W.heap.size, 0, none⟩) 0 0) [] [] := Tab.start (Own.nil _ _) (by rw [hB]; exact Nat.le_refl _)
  have b0 : Below B W (W.alloc (.cells #[] 27)) := by rw [hB]; exact (Below.refl _ _).alloc (Nat.le_refl _) _
  go_upto_region 2 with fail
  replace hB := hid hB
  generalize W.alloc (.cells #[] 27) = w2 at *
  generalize W.heap.size = gl at *
  go_wp2_with fail
  go_loopw [7, 8] (fun ov i wr => ∃ t : Nat, t ≤ X.length + 1 ∧ i = .int .i64 t ∧ Tab wr B ov (List.replicate t (List.replicate P.length 0)) [] ∧ Below B W wr) (fun _ i _ => X.length + 1 - (intOf i).toNat)
  case atStart => exact ⟨0, by omega, rfl, tab0, b0⟩
  case round =>
    clear tab0 b0
    obtain ⟨t, ht, rfl, tab, hb⟩ := hrel
    obtain ⟨wq, rfl⟩ : ∃ y : World, y = wr := ⟨_, rfl⟩
    have eq : Ext W wq := hEx.out _ hb
    have e0q : Ext w0 wq := Ext.trans e0W eq
    have hBq := hBl.out _ eq
    by_cases hlt : t ≤ X.length
    · obtain ⟨dO, nO, mO, rfl, hnO⟩ := tab.formN
      have hTl : (List.replicate t (List.replicate P.length (0 : Int))).length ≤ 1000000 := by rw [List.length_replicate]; omega
      have hTs := hid (show List.replicate (t + 1) (List.replicate P.length (0 : Int)) = List.replicate t (List.replicate P.length 0) ++ [List.replicate P.length 0] from List.replicate_succ')
      have e4 : Ext wq (wq.alloc (.cells (Array.replicate P.length (.int .i64 0)) 3)) := inferInstance
      have b4 : Below B W (wq.alloc (.cells (Array.replicate P.length (.int .i64 0)) 3)) := hb.alloc hBq _
      have hB4 : B ≤ (wq.alloc (.cells (Array.replicate P.length (.int .i64 0)) 3)).heap.size := Nat.le_trans hBq e4.size
      obtain ⟨TT, hTT⟩ : ∃ y, y = List.replicate t (List.replicate P.length (0 : Int)) := ⟨_, rfl⟩
      rw [← hTT] at tab hTl hTs hnO
      replace hTT := hid hTT
      go_wp2_with (first
        | (at_make; refine wpList_makeOwn rfl _ _ _ rfl elemInt P.length rfl rfl (by omega) (by omega) rfl ?_; intro hown4; have tabX := tab.join (rv := .slice (some ⟨wq.heap.size, 0, none⟩) P.length P.length) (xs := List.replicate P.length 0) (by unfold intRowOf; rw [List.length_replicate, List.map_replicate]; exact hown4) e4 hBq; clear hown4; generalize wq.alloc (.cells (Array.replicate P.length (.int .i64 0)) 3) = w4 at *)
        | (at_builtin; refine wpList_push rfl (.tmp 22) (.tmp 26) rfl rfl tabX hB4 rfl hTl ?_; intro v9 w9 tab9 b9))
      go_roundw
      case rel => exact ⟨t + 1, by omega, by go_num, by rw [hTs.out]; exact tab9, b4.trans b9⟩
      case measure => simp [intOf]; omega
    · have htX : t = X.length + 1 := by omega
      rw [htX, reTab_one M P X] at tab
      have hTl0 := reTab_len M P X 1
      obtain ⟨g, mO, rfl⟩ := tab.place (by rw [hTl0]; omega)
      rw [hTl0] at tab ⊢
      go_wp2_with fail
      clear hlt ht hTl0 hBq e0q eq
      replace htX := hid htX
      go_loopw [9] (fun i wr => ∃ s : Nat, 1 ≤ s ∧ s ≤ X.length + 1 ∧ i = .int .i64 ((X.length : Int) - s) ∧ Tab wr B (.slice (some ⟨g, 0, none⟩) (X.length + 1) mO) (reTab M P X s) [] ∧ Below B W wr) (fun i _ => (intOf i + 1).toNat)
      case atStart => exact ⟨1, by omega, by omega, rfl, tab, hb⟩
      case round =>
        clear tab hb
        obtain ⟨s, hs1, hs, rfl, tab, hb⟩ := hrel
        obtain ⟨wo, rfl⟩ : ∃ y : World, y = wr := ⟨_, rfl⟩
        by_cases hlt : s ≤ X.length
        · obtain ⟨j, hj⟩ : ∃ j : Nat, j + s = X.length := ⟨X.length - s, by omega⟩
          have hjX : j < X.length := by omega
          rw [show ((X.length : Int) - s) = (j : Int) by omega]
          obtain ⟨bX, oX, rn, hdX, hr1, hr2, hcX⟩ := hX'.pt hXp.out (w' := w0) hjX
          cases hdX
          have hN1 := hNx.out j hjX
          rw [hr1] at hN1
          replace hN1 := hid hN1
          replace hr1 := hid hr1
          have hrow := hid (reTab_row (M := M) (P := P) (X := X) (s := s) (j := j + 1) (by omega) (by omega))
          have hg1 := hrg.out (X.length - (j + 1)) (by omega)
          have hg0 := hrg.out (X.length - j) (by omega)
          have hl1 := hid hg1.1.1
          have hl0 := hid hg0.1.1
          have hb1 := hid (show ∀ q, q < P.length → 0 ≤ nth (rsD M P X (X.length - (j + 1))) q ∧ nth (rsD M P X (X.length - (j + 1))) q ≤ 1000000 from fun q hq => by have := hg1.2 q hq; omega)
          have hnext := hid (reTab_next (M := M) (P := P) hj)
          rw [re_fill hj] at tab
          have hTl := hid (reTab_len M P X s)
          clear hg1 hg0
          obtain ⟨R1, hR1⟩ : ∃ q, q = rsD M P X (X.length - (j + 1)) := ⟨_, rfl⟩
          rw [← hR1] at hrow hl1 hb1 hN1
          obtain ⟨R0, hR0⟩ : ∃ q, q = rsD M P X (X.length - j) := ⟨_, rfl⟩
          rw [← hR0] at hl0 hnext hN1 tab
          obtain ⟨T, hTd⟩ : ∃ q, q = reTab M P X s := ⟨_, rfl⟩
          rw [← hTd] at hrow hnext hTl tab
          replace hR1 := hid hR1
          replace hR0 := hid hR0
          replace hTd := hid hTd
          have hjr := hid hj
          have hri := hid (show I64 (rn : Int) by unfold I64; omega)
          have hrp := hid (show 0 ≤ (rn : Int) ∧ (rn : Int) < (M.length : Int) by omega)
          clear hj
          go_wp2_with fail
          go_loopw [10] (fun i wr => ∃ q : Nat, q ≤ P.length ∧ i = .int .i64 q ∧ Tab wr B (.slice (some ⟨g, 0, none⟩) (X.length + 1) mO) (T.set j (prt R0 P.length q)) [] ∧ Below B W wr) (fun i _ => P.length - (intOf i).toNat)
          case atStart => exact ⟨0, by omega, rfl, tab, hb⟩
          case round =>
            clear tab hb
            obtain ⟨q, hq, rfl, tab, hb⟩ := hrel
            obtain ⟨wq, rfl⟩ : ∃ y : World, y = wr := ⟨_, rfl⟩
            have eq : Ext W wq := hEx.out _ hb
            have e0q : Ext w0 wq := Ext.trans e0W eq
            have hBq := hBl.out _ eq
            by_cases hltq : q < P.length
            · have hT2l : (T.set j (prt R0 P.length q)).length = X.length + 1 := by rw [List.length_set]; exact hTl.out
              have hrj := hid (show row (T.set j (prt R0 P.length q)) j = prt R0 P.length q from row_sets (by rw [hTl.out]; omega))
              have hrj1 := hid (show row (T.set j (prt R0 P.length q)) (j + 1) = R1 by rw [row_set_ne (by omega)]; exact hrow.out)
              obtain ⟨gk, mk, hck, _, hrd⟩ := tab.rd hT2l (i := j + 1) (by omega) (by rw [hrj1.out, hl1.out]; omega)
              rw [hrj1.out, hl1.out] at hck hrd
              have hrdR := hid (fun (y : Nat) (hy : y < P.length) => (hrd y hy).1)
              replace hck := hid hck
              replace hT2l := hid hT2l
              clear hrd
              go_wp2_with fail
              go_loopw [11, 12] (fun lv i wr => ∃ z : Nat, z ≤ k ∧ i = .int .i64 z ∧ lv = .int .i64 (snAt M P R1 rn q z) ∧ Ext wq wr) (fun _ i _ => k - (intOf i).toNat)
              case atStart => exact ⟨0, by omega, rfl, rfl, Ext.refl _⟩
              case round =>
                obtain ⟨z, hz, rfl, rfl, eqr⟩ := hrel
                obtain ⟨wv, rfl⟩ : ∃ y : World, y = wr := ⟨_, rfl⟩
                obtain ⟨bP, oP, d1, m1, hdP, hc1, hi1, _⟩ := hP.at (w' := wq) hltq
                cases hdP
                obtain ⟨hcl, hcpt⟩ := hPm.out q hltq
                have hc1v := eqr.cell hc1
                by_cases hltz : z < k
                · have hmem := hid (hSw.out q z rn hltq hltz hrp.out)
                  have htl := (atR_lt hmem.out).1
                  have hsc : z < (row P q).length := by rw [hcl]; exact hltz
                  obtain ⟨bc, oc, x, hd1, hx, hxM, hcc⟩ := hi1.pt (w' := wq) hcpt (k := z) hsc
                  cases hd1
                  obtain ⟨bM, oM, dR, mR, hdM, hcM, hiR, _⟩ := hR.at (w' := wq) (k := x) hxM
                  cases hdM
                  have hRl : rn < (row M x).length := by rw [hMr.out x hxM]; exact hr2
                  obtain ⟨bR, oR, hdR, hcR⟩ := hiR.at (w' := wq) (k := rn) hRl
                  cases hdR
                  have hswl := hid (show (sortL ((row P q).set z rn)).length = k by rw [sortL_len, List.length_set, hcl])
                  have hswi := hid (show ∀ y ∈ sortL ((row P q).set z rn), I64 y from pts_i64 (n := M.length) ((hcpt.set hrp.out).perm (sortL_perm _)) (by omega))
                  obtain ⟨t', ht'⟩ : ∃ t', t' = atR P (sortL ((row P q).set z rn)) := ⟨_, rfl⟩
                  rw [← ht'] at htl
                  have htw : t' < R1.length := by rw [hl1.out]; exact htl
                  have hct := hrdR.out t' htl
                  have hsum := hid (show swS M P R1 rn q z = nth R1 t' + nth (row M x) rn by
                    unfold swS swC
                    rw [← ht', hx]
                    rfl)
                  have hq1 := hb1.out t' htl
                  have hq2 : 0 ≤ nth (row M x) rn ∧ nth (row M x) rn ≤ 99 := hds.out.pos x rn hxM hr2
                  have hnx := hid (show snAt M P R1 rn q (z + 1) = if snAt M P R1 rn q z < 0 ∨ swS M P R1 rn q z < snAt M P R1 rn q z then swS M P R1 rn q z else snAt M P R1 rn q z from rfl)
                  rw [hsum.out] at hnx
                  generalize hlg : snAt M P R1 rn q z = l at *
                  replace hlg := hid hlg
                  have hat := hid ht'.symm
                  replace ht' := hid ht'
                  replace hx := hid hx
                  obtain ⟨wt, hwt⟩ : ∃ y, y = nth R1 t' := ⟨_, rfl⟩
                  rw [← hwt] at hct hnx hq1
                  replace hwt := hid hwt
                  obtain ⟨dc, hdc⟩ : ∃ y, y = nth (row M x) rn := ⟨_, rfl⟩
                  rw [← hdc] at hcR hnx hq2
                  replace hdc := hid hdc
                  obtain ⟨Rx, hRx⟩ : ∃ y, y = row M x := ⟨_, rfl⟩
                  rw [← hRx] at hcM hiR hRl
                  replace hRx := hid hRx
                  obtain ⟨c, hc⟩ : ∃ y, y = row P q := ⟨_, rfl⟩
                  rw [← hc] at hc1 hi1 hcl hcpt hmem hsc hswl hswi hat hc1v
                  replace hc := hid hc
                  have hclv := hid hcl
                  have hck3 : c.length ≤ 3 := by rw [hcl]; exact hk.2
                  have x0q := eq.cell x0
                  have hXq := e0q.cell hcX
                  have hSa := hid (show ∀ u, Ext wq u → u.cell? ⟨bP, oP + q, none⟩ = some (.slice (some ⟨bc, oc, none⟩) c.length m1) ∧ u.cell? ⟨bX, oX + j, none⟩ = some (.int .i64 rn) from fun u e => ⟨e.cell hc1, e.cell hXq⟩)
                  have hSb := hid (show ∀ u, Ext wq u → u.cell? ⟨bP, oP + q, none⟩ = some (.slice (some ⟨bc, oc, none⟩) c.length m1) ∧ u.cell? ⟨bX, oX + j, none⟩ = some (.int .i64 rn) ∧ u.cell? ⟨bx, 0, none⟩ = some (.slice (some ⟨bM, oM, none⟩) M.length c1) ∧ u.cell? ⟨bc, oc + z, none⟩ = some (.int .i64 (x : Int)) ∧ u.cell? ⟨bM, oM + x, none⟩ = some (.slice (some ⟨bR, oR, none⟩) Rx.length mR) ∧ u.cell? ⟨bR, oR + rn, none⟩ = some (.int .i64 dc) ∧ u.cell? ⟨g, j + 1, none⟩ = some (.slice (some ⟨gk, 0, none⟩) P.length mk) ∧ u.cell? ⟨gk, t', none⟩ = some (.int .i64 wt) from fun u e => ⟨e.cell hc1, e.cell hXq, e.cell x0q, e.cell hcc, e.cell hcM, e.cell hcR, e.cell hck.out, e.cell hct⟩)
                  have hltc : z < c.length := hsc
                  clear hc1 hct hcc hcM hcR x0q hXq hcl
                  have hs1 : IntKind.i64.wrap (dc + wt) = dc + wt := IntWalk.i64_in _ (by omega)
                  by_cases hl0' : l < 0
                  · have hl0d : decide (l < 0) = true := decide_eq_true hl0'
                    have hy := hid (show snAt M P R1 rn q (z + 1) = dc + wt by rw [hnx.out, if_pos (.inl hl0')]; omega)
                    clear hnx
                    go_wp2_with fail
                    refine region_held_from (w0 := wq) (S := fun u => u.cell? ⟨bP, oP + q, none⟩ = some (.slice (some ⟨bc, oc, none⟩) c.length m1) ∧ u.cell? ⟨bX, oX + j, none⟩ = some (.int .i64 rn)) (by kernel_rfl) hSa.out (fun wd ed hHeld0 => ?_)
                    have e0d : Ext w0 wd := Ext.trans e0q ed
                    refine wpAnyH_take (i := 0) (v := .slice (some ⟨bP, oP, none⟩) P.length cP) rfl (by kernel_rfl) (by kernel_rfl) (by kernel_rfl) (fun _ _ _ h => h) (Or.inl ⟨by rfl, by intro wx hx; go_simp⟩) (by assumption) ?_
                    try simp only [List.getElem_toArray, List.getElem_cons_zero, Act.put, List.setIfInBounds_toArray, List.set_cons_zero, List.set_cons_succ]
                    refine wpAnyH_take (i := 1) (v := .int .i64 q) rfl (by kernel_rfl) (by kernel_rfl) (by kernel_rfl) (fun _ _ _ h => h) (Or.inl ⟨by rfl, by intro wx hx; go_simp⟩) (by assumption) ?_
                    try simp only [List.getElem_toArray, List.getElem_cons_succ, List.getElem_cons_zero, Act.put, List.setIfInBounds_toArray, List.set_cons_zero, List.set_cons_succ]
                    refine wpAnyH_take (i := 2) (v := .pointer (some ⟨bP, oP + q, none⟩)) rfl (by kernel_rfl) (by kernel_rfl) (by kernel_rfl) (fun _ _ _ h => h) (Or.inl ⟨by rfl, by intro wx hx; go_simp⟩) (by assumption) ?_
                    try simp only [List.getElem_toArray, List.getElem_cons_succ, List.getElem_cons_zero, Act.put, List.setIfInBounds_toArray, List.set_cons_zero, List.set_cons_succ]
                    refine wpAnyH_take (i := 3) (v := .slice (some ⟨bc, oc, none⟩) c.length m1) rfl (by kernel_rfl) (by kernel_rfl) (by kernel_rfl) (fun _ _ _ h => h) (Or.inl ⟨by rfl, by intro wx hx; obtain ⟨_, _⟩ := hx; go_simp⟩) (by assumption) ?_
                    try simp only [List.getElem_toArray, List.getElem_cons_succ, List.getElem_cons_zero, Act.put, List.setIfInBounds_toArray, List.set_cons_zero, List.set_cons_succ]
                    refine wpAnyH_take (i := 4) (v := .int .i64 z) rfl (by kernel_rfl) (by kernel_rfl) (by kernel_rfl) (fun _ _ _ h => h) (Or.inl ⟨by rfl, by intro wx hx; go_simp⟩) (by assumption) ?_
                    try simp only [List.getElem_toArray, List.getElem_cons_succ, List.getElem_cons_zero, Act.put, List.setIfInBounds_toArray, List.set_cons_zero, List.set_cons_succ]
                    refine wpAnyH_take (i := 5) (v := .slice (some ⟨bX, oX, none⟩) X.length mX) rfl (by kernel_rfl) (by kernel_rfl) (by kernel_rfl) (fun _ _ _ h => h) (Or.inl ⟨by rfl, by intro wx hx; go_simp⟩) (by assumption) ?_
                    try simp only [List.getElem_toArray, List.getElem_cons_succ, List.getElem_cons_zero, Act.put, List.setIfInBounds_toArray, List.set_cons_zero, List.set_cons_succ]
                    refine wpAnyH_take (i := 6) (v := .int .i64 j) rfl (by kernel_rfl) (by kernel_rfl) (by kernel_rfl) (fun _ _ _ h => h) (Or.inl ⟨by rfl, by intro wx hx; go_simp⟩) (by assumption) ?_
                    try simp only [List.getElem_toArray, List.getElem_cons_succ, List.getElem_cons_zero, Act.put, List.setIfInBounds_toArray, List.set_cons_zero, List.set_cons_succ]
                    refine wpAnyH_take (i := 7) (v := .pointer (some ⟨bX, oX + j, none⟩)) rfl (by kernel_rfl) (by kernel_rfl) (by kernel_rfl) (fun _ _ _ h => h) (Or.inl ⟨by rfl, by intro wx hx; go_simp⟩) (by assumption) ?_
                    try simp only [List.getElem_toArray, List.getElem_cons_succ, List.getElem_cons_zero, Act.put, List.setIfInBounds_toArray, List.set_cons_zero, List.set_cons_succ]
                    refine wpAnyH_take (i := 8) (v := .int .i64 rn) rfl (by kernel_rfl) (by kernel_rfl) (by kernel_rfl) (fun _ _ _ h => h) (Or.inl ⟨by rfl, by intro wx hx; obtain ⟨_, _⟩ := hx; go_simp⟩) (by assumption) ?_
                    try simp only [List.getElem_toArray, List.getElem_cons_succ, List.getElem_cons_zero, Act.put, List.setIfInBounds_toArray, List.set_cons_zero, List.set_cons_succ]
                    refine wpAnyH_ready (rs := [9]) (by kernel_rfl) (by simp) ?_
                    refine AllReadyH.cons rfl (fun K hK => ?_) AllReadyH.nil
                    go_simp
                    go_at_call 128
                    refine (l7Swap_any (w0 := w0) hi1 hsc hri.out (by omega)).mono ?_
                    rintro e w5 ⟨u5, rfl, own5, e5⟩
                    have e5q : Ext wq w5 := Ext.trans ed e5
                    have hU : IsInts w5 u5 (sortL (c.set z rn)) := own5.reads (by unfold Short; rw [hswl.out]; omega) hswi.out
                    clear own5
                    have hS5 := hSa.out w5 e5q
                    obtain ⟨dU, mU, rfl, lU⟩ := hU.form
                    go_wp2_with fail
                    refine hK.out _ _ hS5 (fun _ => ?_)
                    clear hK K
                    try simp only [List.getElem_toArray, List.getElem_cons_succ, List.getElem_cons_zero, Act.put, List.setIfInBounds_toArray, List.set_cons_zero, List.set_cons_succ]
                    refine wpAnyH_take (i := 10) (v := .slice dU (sortL (c.set z rn)).length mU) rfl (by kernel_rfl) (by kernel_rfl) (by kernel_rfl) (fun _ _ _ h => h) (Or.inl ⟨by rfl, by intro wx hx; go_simp⟩) (by assumption) ?_
                    try simp only [List.getElem_toArray, List.getElem_cons_succ, List.getElem_cons_zero, Act.put, List.setIfInBounds_toArray, List.set_cons_zero, List.set_cons_succ]
                    refine wpAnyH_done (by kernel_rfl) ?_ _
                    go_wp2_with fail
                    refine region_held_from (w0 := w5) (S := fun u => u.cell? ⟨bP, oP + q, none⟩ = some (.slice (some ⟨bc, oc, none⟩) c.length m1) ∧ u.cell? ⟨bX, oX + j, none⟩ = some (.int .i64 rn) ∧ u.cell? ⟨bx, 0, none⟩ = some (.slice (some ⟨bM, oM, none⟩) M.length c1) ∧ u.cell? ⟨bc, oc + z, none⟩ = some (.int .i64 (x : Int)) ∧ u.cell? ⟨bM, oM + x, none⟩ = some (.slice (some ⟨bR, oR, none⟩) Rx.length mR) ∧ u.cell? ⟨bR, oR + rn, none⟩ = some (.int .i64 dc) ∧ u.cell? ⟨g, j + 1, none⟩ = some (.slice (some ⟨gk, 0, none⟩) P.length mk) ∧ u.cell? ⟨gk, t', none⟩ = some (.int .i64 wt)) (by kernel_rfl) (fun u e => hSb.out u (Ext.trans e5q e)) (fun wd ed hHeld0 => ?_)
                    have eqd : Ext wq wd := Ext.trans e5q ed
                    refine wpAnyH_take (i := 0) (v := .pointer (some ⟨bx, 0, none⟩)) rfl (by kernel_rfl) (by kernel_rfl) (by kernel_rfl) (fun _ _ _ h => h) (Or.inl ⟨by rfl, by intro wx hx; go_simp⟩) (by assumption) ?_
                    try simp only [List.getElem_toArray, List.getElem_cons_zero, Act.put, List.setIfInBounds_toArray, List.set_cons_zero, List.set_cons_succ]
                    refine wpAnyH_take (i := 1) (v := .slice (some ⟨bM, oM, none⟩) M.length c1) rfl (by kernel_rfl) (by kernel_rfl) (by kernel_rfl) (fun _ _ _ h => h) (Or.inl ⟨by rfl, by intro wx hx; obtain ⟨_, _, _, _, _, _, _, _⟩ := hx; go_simp⟩) (by assumption) ?_
                    try simp only [List.getElem_toArray, List.getElem_cons_succ, List.getElem_cons_zero, Act.put, List.setIfInBounds_toArray, List.set_cons_zero, List.set_cons_succ]
                    refine wpAnyH_take (i := 2) (v := .slice (some ⟨bP, oP, none⟩) P.length cP) rfl (by kernel_rfl) (by kernel_rfl) (by kernel_rfl) (fun _ _ _ h => h) (Or.inl ⟨by rfl, by intro wx hx; go_simp⟩) (by assumption) ?_
                    try simp only [List.getElem_toArray, List.getElem_cons_succ, List.getElem_cons_zero, Act.put, List.setIfInBounds_toArray, List.set_cons_zero, List.set_cons_succ]
                    refine wpAnyH_take (i := 3) (v := .int .i64 q) rfl (by kernel_rfl) (by kernel_rfl) (by kernel_rfl) (fun _ _ _ h => h) (Or.inl ⟨by rfl, by intro wx hx; go_simp⟩) (by assumption) ?_
                    try simp only [List.getElem_toArray, List.getElem_cons_succ, List.getElem_cons_zero, Act.put, List.setIfInBounds_toArray, List.set_cons_zero, List.set_cons_succ]
                    refine wpAnyH_take (i := 4) (v := .pointer (some ⟨bP, oP + q, none⟩)) rfl (by kernel_rfl) (by kernel_rfl) (by kernel_rfl) (fun _ _ _ h => h) (Or.inl ⟨by rfl, by intro wx hx; go_simp⟩) (by assumption) ?_
                    try simp only [List.getElem_toArray, List.getElem_cons_succ, List.getElem_cons_zero, Act.put, List.setIfInBounds_toArray, List.set_cons_zero, List.set_cons_succ]
                    refine wpAnyH_take (i := 5) (v := .slice (some ⟨bc, oc, none⟩) c.length m1) rfl (by kernel_rfl) (by kernel_rfl) (by kernel_rfl) (fun _ _ _ h => h) (Or.inl ⟨by rfl, by intro wx hx; obtain ⟨_, _, _, _, _, _, _, _⟩ := hx; go_simp⟩) (by assumption) ?_
                    try simp only [List.getElem_toArray, List.getElem_cons_succ, List.getElem_cons_zero, Act.put, List.setIfInBounds_toArray, List.set_cons_zero, List.set_cons_succ]
                    refine wpAnyH_take (i := 6) (v := .int .i64 z) rfl (by kernel_rfl) (by kernel_rfl) (by kernel_rfl) (fun _ _ _ h => h) (Or.inl ⟨by rfl, by intro wx hx; go_simp⟩) (by assumption) ?_
                    try simp only [List.getElem_toArray, List.getElem_cons_succ, List.getElem_cons_zero, Act.put, List.setIfInBounds_toArray, List.set_cons_zero, List.set_cons_succ]
                    refine wpAnyH_take (i := 7) (v := .pointer (some ⟨bc, oc + z, none⟩)) rfl (by kernel_rfl) (by kernel_rfl) (by kernel_rfl) (fun _ _ _ h => h) (Or.inl ⟨by rfl, by intro wx hx; go_simp⟩) (by assumption) ?_
                    try simp only [List.getElem_toArray, List.getElem_cons_succ, List.getElem_cons_zero, Act.put, List.setIfInBounds_toArray, List.set_cons_zero, List.set_cons_succ]
                    refine wpAnyH_take (i := 8) (v := .int .i64 x) rfl (by kernel_rfl) (by kernel_rfl) (by kernel_rfl) (fun _ _ _ h => h) (Or.inl ⟨by rfl, by intro wx hx; obtain ⟨_, _, _, _, _, _, _, _⟩ := hx; go_simp⟩) (by assumption) ?_
                    try simp only [List.getElem_toArray, List.getElem_cons_succ, List.getElem_cons_zero, Act.put, List.setIfInBounds_toArray, List.set_cons_zero, List.set_cons_succ]
                    refine wpAnyH_take (i := 9) (v := .pointer (some ⟨bM, oM + x, none⟩)) rfl (by kernel_rfl) (by kernel_rfl) (by kernel_rfl) (fun _ _ _ h => h) (Or.inl ⟨by rfl, by intro wx hx; go_simp⟩) (by assumption) ?_
                    try simp only [List.getElem_toArray, List.getElem_cons_succ, List.getElem_cons_zero, Act.put, List.setIfInBounds_toArray, List.set_cons_zero, List.set_cons_succ]
                    refine wpAnyH_take (i := 10) (v := .slice (some ⟨bR, oR, none⟩) Rx.length mR) rfl (by kernel_rfl) (by kernel_rfl) (by kernel_rfl) (fun _ _ _ h => h) (Or.inl ⟨by rfl, by intro wx hx; obtain ⟨_, _, _, _, _, _, _, _⟩ := hx; go_simp⟩) (by assumption) ?_
                    try simp only [List.getElem_toArray, List.getElem_cons_succ, List.getElem_cons_zero, Act.put, List.setIfInBounds_toArray, List.set_cons_zero, List.set_cons_succ]
                    refine wpAnyH_take (i := 11) (v := .slice (some ⟨bX, oX, none⟩) X.length mX) rfl (by kernel_rfl) (by kernel_rfl) (by kernel_rfl) (fun _ _ _ h => h) (Or.inl ⟨by rfl, by intro wx hx; go_simp⟩) (by assumption) ?_
                    try simp only [List.getElem_toArray, List.getElem_cons_succ, List.getElem_cons_zero, Act.put, List.setIfInBounds_toArray, List.set_cons_zero, List.set_cons_succ]
                    refine wpAnyH_take (i := 12) (v := .int .i64 j) rfl (by kernel_rfl) (by kernel_rfl) (by kernel_rfl) (fun _ _ _ h => h) (Or.inl ⟨by rfl, by intro wx hx; go_simp⟩) (by assumption) ?_
                    try simp only [List.getElem_toArray, List.getElem_cons_succ, List.getElem_cons_zero, Act.put, List.setIfInBounds_toArray, List.set_cons_zero, List.set_cons_succ]
                    refine wpAnyH_take (i := 13) (v := .pointer (some ⟨bX, oX + j, none⟩)) rfl (by kernel_rfl) (by kernel_rfl) (by kernel_rfl) (fun _ _ _ h => h) (Or.inl ⟨by rfl, by intro wx hx; go_simp⟩) (by assumption) ?_
                    try simp only [List.getElem_toArray, List.getElem_cons_succ, List.getElem_cons_zero, Act.put, List.setIfInBounds_toArray, List.set_cons_zero, List.set_cons_succ]
                    refine wpAnyH_take (i := 14) (v := .int .i64 rn) rfl (by kernel_rfl) (by kernel_rfl) (by kernel_rfl) (fun _ _ _ h => h) (Or.inl ⟨by rfl, by intro wx hx; obtain ⟨_, _, _, _, _, _, _, _⟩ := hx; go_simp⟩) (by assumption) ?_
                    try simp only [List.getElem_toArray, List.getElem_cons_succ, List.getElem_cons_zero, Act.put, List.setIfInBounds_toArray, List.set_cons_zero, List.set_cons_succ]
                    refine wpAnyH_take (i := 15) (v := .pointer (some ⟨bR, oR + rn, none⟩)) rfl (by kernel_rfl) (by kernel_rfl) (by kernel_rfl) (fun _ _ _ h => h) (Or.inl ⟨by rfl, by intro wx hx; go_simp⟩) (by assumption) ?_
                    try simp only [List.getElem_toArray, List.getElem_cons_succ, List.getElem_cons_zero, Act.put, List.setIfInBounds_toArray, List.set_cons_zero, List.set_cons_succ]
                    refine wpAnyH_take (i := 16) (v := .int .i64 dc) rfl (by kernel_rfl) (by kernel_rfl) (by kernel_rfl) (fun _ _ _ h => h) (Or.inl ⟨by rfl, by intro wx hx; obtain ⟨_, _, _, _, _, _, _, _⟩ := hx; go_simp⟩) (by assumption) ?_
                    try simp only [List.getElem_toArray, List.getElem_cons_succ, List.getElem_cons_zero, Act.put, List.setIfInBounds_toArray, List.set_cons_zero, List.set_cons_succ]
                    refine wpAnyH_take (i := 17) (v := .slice (some ⟨g, 0, none⟩) (X.length + 1) mO) rfl (by kernel_rfl) (by kernel_rfl) (by kernel_rfl) (fun _ _ _ h => h) (Or.inl ⟨by rfl, by intro wx hx; go_simp⟩) (by assumption) ?_
                    try simp only [List.getElem_toArray, List.getElem_cons_succ, List.getElem_cons_zero, Act.put, List.setIfInBounds_toArray, List.set_cons_zero, List.set_cons_succ]
                    refine wpAnyH_take (i := 18) (v := .int .i64 j) rfl (by kernel_rfl) (by kernel_rfl) (by kernel_rfl) (fun _ _ _ h => h) (Or.inl ⟨by rfl, by intro wx hx; go_simp⟩) (by assumption) ?_
                    try simp only [List.getElem_toArray, List.getElem_cons_succ, List.getElem_cons_zero, Act.put, List.setIfInBounds_toArray, List.set_cons_zero, List.set_cons_succ]
                    refine wpAnyH_take (i := 19) (v := .int .i64 ((j : Int) + 1)) rfl (by kernel_rfl) (by kernel_rfl) (by kernel_rfl) (fun _ _ _ h => h) (Or.inl ⟨by rfl, by intro wx hx; (go_simp; exact IntWalk.i64_in _ (by omega))⟩) (by assumption) ?_
                    try simp only [List.getElem_toArray, List.getElem_cons_succ, List.getElem_cons_zero, Act.put, List.setIfInBounds_toArray, List.set_cons_zero, List.set_cons_succ]
                    refine wpAnyH_take (i := 20) (v := .pointer (some ⟨g, j + 1, none⟩)) rfl (by kernel_rfl) (by kernel_rfl) (by kernel_rfl) (fun _ _ _ h => h) (Or.inl ⟨by rfl, by intro wx hx; (go_simp; intro hq; exfalso; omega)⟩) (by assumption) ?_
                    try simp only [List.getElem_toArray, List.getElem_cons_succ, List.getElem_cons_zero, Act.put, List.setIfInBounds_toArray, List.set_cons_zero, List.set_cons_succ]
                    refine wpAnyH_take (i := 21) (v := .slice (some ⟨gk, 0, none⟩) P.length mk) rfl (by kernel_rfl) (by kernel_rfl) (by kernel_rfl) (fun _ _ _ h => h) (Or.inl ⟨by rfl, by intro wx hx; obtain ⟨_, _, _, _, _, _, _, _⟩ := hx; go_simp⟩) (by assumption) ?_
                    try simp only [List.getElem_toArray, List.getElem_cons_succ, List.getElem_cons_zero, Act.put, List.setIfInBounds_toArray, List.set_cons_zero, List.set_cons_succ]
                    refine wpAnyH_take (i := 22) (v := .slice (some ⟨bP, oP, none⟩) P.length cP) rfl (by kernel_rfl) (by kernel_rfl) (by kernel_rfl) (fun _ _ _ h => h) (Or.inl ⟨by rfl, by intro wx hx; go_simp⟩) (by assumption) ?_
                    try simp only [List.getElem_toArray, List.getElem_cons_succ, List.getElem_cons_zero, Act.put, List.setIfInBounds_toArray, List.set_cons_zero, List.set_cons_succ]
                    refine wpAnyH_take (i := 23) (v := .slice dU (sortL (c.set z rn)).length mU) rfl (by kernel_rfl) (by kernel_rfl) (by kernel_rfl) (fun _ _ _ h => h) (Or.inl ⟨by rfl, by intro wx hx; go_simp⟩) (by assumption) ?_
                    try simp only [List.getElem_toArray, List.getElem_cons_succ, List.getElem_cons_zero, Act.put, List.setIfInBounds_toArray, List.set_cons_zero, List.set_cons_succ]
                    refine wpAnyH_ready (rs := [24]) (by kernel_rfl) (by simp) ?_
                    refine AllReadyH.cons rfl (fun K hK => ?_) AllReadyH.nil
                    go_simp
                    go_at_call 81
                    refine (l7Index_any (w0 := wd) (w := wd) (hP.ext (e := Ext.trans e0q eqd)) (hU.ext (e := ed)) hmem.out).mono ?_
                    rw [hat.out]
                    rintro e w6 ⟨rfl, e6⟩
                    have e6q : Ext wq w6 := Ext.trans eqd e6
                    have hS6 := hSb.out w6 e6q
                    go_wp2_with fail
                    refine hK.out _ _ hS6 (fun _ => ?_)
                    clear hK K
                    try simp only [List.getElem_toArray, List.getElem_cons_succ, List.getElem_cons_zero, Act.put, List.setIfInBounds_toArray, List.set_cons_zero, List.set_cons_succ]
                    refine wpAnyH_take (i := 25) (v := .pointer (some ⟨gk, t', none⟩)) rfl (by kernel_rfl) (by kernel_rfl) (by kernel_rfl) (fun _ _ _ h => h) (Or.inl ⟨by rfl, by intro wx hx; go_simp⟩) (by assumption) ?_
                    try simp only [List.getElem_toArray, List.getElem_cons_succ, List.getElem_cons_zero, Act.put, List.setIfInBounds_toArray, List.set_cons_zero, List.set_cons_succ]
                    refine wpAnyH_take (i := 26) (v := .int .i64 wt) rfl (by kernel_rfl) (by kernel_rfl) (by kernel_rfl) (fun _ _ _ h => h) (Or.inl ⟨by rfl, by intro wx hx; obtain ⟨_, _, _, _, _, _, _, _⟩ := hx; go_simp⟩) (by assumption) ?_
                    try simp only [List.getElem_toArray, List.getElem_cons_succ, List.getElem_cons_zero, Act.put, List.setIfInBounds_toArray, List.set_cons_zero, List.set_cons_succ]
                    refine wpAnyH_take (i := 27) (v := .int .i64 (dc + wt)) rfl (by kernel_rfl) (by kernel_rfl) (by kernel_rfl) (fun _ _ _ h => h) (Or.inl ⟨by rfl, by intro wx hx; go_simp⟩) (by assumption) ?_
                    try simp only [List.getElem_toArray, List.getElem_cons_succ, List.getElem_cons_zero, Act.put, List.setIfInBounds_toArray, List.set_cons_zero, List.set_cons_succ]
                    refine wpAnyH_take (i := 28) (v := .int .i64 (dc + wt)) rfl (by kernel_rfl) (by kernel_rfl) (by kernel_rfl) (fun _ _ _ h => h) (Or.inl ⟨by rfl, by intro wx hx; go_simp⟩) (by assumption) ?_
                    try simp only [List.getElem_toArray, List.getElem_cons_succ, List.getElem_cons_zero, Act.put, List.setIfInBounds_toArray, List.set_cons_zero, List.set_cons_succ]
                    refine wpAnyH_done (by kernel_rfl) ?_ _
                    go_wp2_with fail
                    go_roundw
                    case rel => exact ⟨z + 1, by omega, by go_num, by rw [hy.out], e6q⟩
                    case measure => simp [intOf]; omega
                  · have hl0d : decide (l < 0) = false := decide_eq_false hl0'
                    by_cases hl1' : dc + wt < l
                    · have hl1d : decide (dc + wt < l) = true := decide_eq_true hl1'
                      have hy := hid (show snAt M P R1 rn q (z + 1) = dc + wt by rw [hnx.out, if_pos (.inr (by omega))]; omega)
                      clear hnx
                      go_wp2_with fail
                      refine region_held_from (w0 := wq) (S := fun u => u.cell? ⟨bP, oP + q, none⟩ = some (.slice (some ⟨bc, oc, none⟩) c.length m1) ∧ u.cell? ⟨bX, oX + j, none⟩ = some (.int .i64 rn)) (by kernel_rfl) hSa.out (fun wd ed hHeld0 => ?_)
                      have e0d : Ext w0 wd := Ext.trans e0q ed
                      refine wpAnyH_take (i := 0) (v := .slice (some ⟨bP, oP, none⟩) P.length cP) rfl (by kernel_rfl) (by kernel_rfl) (by kernel_rfl) (fun _ _ _ h => h) (Or.inl ⟨by rfl, by intro wx hx; go_simp⟩) (by assumption) ?_
                      try simp only [List.getElem_toArray, List.getElem_cons_zero, Act.put, List.setIfInBounds_toArray, List.set_cons_zero, List.set_cons_succ]
                      refine wpAnyH_take (i := 1) (v := .int .i64 q) rfl (by kernel_rfl) (by kernel_rfl) (by kernel_rfl) (fun _ _ _ h => h) (Or.inl ⟨by rfl, by intro wx hx; go_simp⟩) (by assumption) ?_
                      try simp only [List.getElem_toArray, List.getElem_cons_succ, List.getElem_cons_zero, Act.put, List.setIfInBounds_toArray, List.set_cons_zero, List.set_cons_succ]
                      refine wpAnyH_take (i := 2) (v := .pointer (some ⟨bP, oP + q, none⟩)) rfl (by kernel_rfl) (by kernel_rfl) (by kernel_rfl) (fun _ _ _ h => h) (Or.inl ⟨by rfl, by intro wx hx; go_simp⟩) (by assumption) ?_
                      try simp only [List.getElem_toArray, List.getElem_cons_succ, List.getElem_cons_zero, Act.put, List.setIfInBounds_toArray, List.set_cons_zero, List.set_cons_succ]
                      refine wpAnyH_take (i := 3) (v := .slice (some ⟨bc, oc, none⟩) c.length m1) rfl (by kernel_rfl) (by kernel_rfl) (by kernel_rfl) (fun _ _ _ h => h) (Or.inl ⟨by rfl, by intro wx hx; obtain ⟨_, _⟩ := hx; go_simp⟩) (by assumption) ?_
                      try simp only [List.getElem_toArray, List.getElem_cons_succ, List.getElem_cons_zero, Act.put, List.setIfInBounds_toArray, List.set_cons_zero, List.set_cons_succ]
                      refine wpAnyH_take (i := 4) (v := .int .i64 z) rfl (by kernel_rfl) (by kernel_rfl) (by kernel_rfl) (fun _ _ _ h => h) (Or.inl ⟨by rfl, by intro wx hx; go_simp⟩) (by assumption) ?_
                      try simp only [List.getElem_toArray, List.getElem_cons_succ, List.getElem_cons_zero, Act.put, List.setIfInBounds_toArray, List.set_cons_zero, List.set_cons_succ]
                      refine wpAnyH_take (i := 5) (v := .slice (some ⟨bX, oX, none⟩) X.length mX) rfl (by kernel_rfl) (by kernel_rfl) (by kernel_rfl) (fun _ _ _ h => h) (Or.inl ⟨by rfl, by intro wx hx; go_simp⟩) (by assumption) ?_
                      try simp only [List.getElem_toArray, List.getElem_cons_succ, List.getElem_cons_zero, Act.put, List.setIfInBounds_toArray, List.set_cons_zero, List.set_cons_succ]
                      refine wpAnyH_take (i := 6) (v := .int .i64 j) rfl (by kernel_rfl) (by kernel_rfl) (by kernel_rfl) (fun _ _ _ h => h) (Or.inl ⟨by rfl, by intro wx hx; go_simp⟩) (by assumption) ?_
                      try simp only [List.getElem_toArray, List.getElem_cons_succ, List.getElem_cons_zero, Act.put, List.setIfInBounds_toArray, List.set_cons_zero, List.set_cons_succ]
                      refine wpAnyH_take (i := 7) (v := .pointer (some ⟨bX, oX + j, none⟩)) rfl (by kernel_rfl) (by kernel_rfl) (by kernel_rfl) (fun _ _ _ h => h) (Or.inl ⟨by rfl, by intro wx hx; go_simp⟩) (by assumption) ?_
                      try simp only [List.getElem_toArray, List.getElem_cons_succ, List.getElem_cons_zero, Act.put, List.setIfInBounds_toArray, List.set_cons_zero, List.set_cons_succ]
                      refine wpAnyH_take (i := 8) (v := .int .i64 rn) rfl (by kernel_rfl) (by kernel_rfl) (by kernel_rfl) (fun _ _ _ h => h) (Or.inl ⟨by rfl, by intro wx hx; obtain ⟨_, _⟩ := hx; go_simp⟩) (by assumption) ?_
                      try simp only [List.getElem_toArray, List.getElem_cons_succ, List.getElem_cons_zero, Act.put, List.setIfInBounds_toArray, List.set_cons_zero, List.set_cons_succ]
                      refine wpAnyH_ready (rs := [9]) (by kernel_rfl) (by simp) ?_
                      refine AllReadyH.cons rfl (fun K hK => ?_) AllReadyH.nil
                      go_simp
                      go_at_call 128
                      refine (l7Swap_any (w0 := w0) hi1 hsc hri.out (by omega)).mono ?_
                      rintro e w5 ⟨u5, rfl, own5, e5⟩
                      have e5q : Ext wq w5 := Ext.trans ed e5
                      have hU : IsInts w5 u5 (sortL (c.set z rn)) := own5.reads (by unfold Short; rw [hswl.out]; omega) hswi.out
                      clear own5
                      have hS5 := hSa.out w5 e5q
                      obtain ⟨dU, mU, rfl, lU⟩ := hU.form
                      go_wp2_with fail
                      refine hK.out _ _ hS5 (fun _ => ?_)
                      clear hK K
                      try simp only [List.getElem_toArray, List.getElem_cons_succ, List.getElem_cons_zero, Act.put, List.setIfInBounds_toArray, List.set_cons_zero, List.set_cons_succ]
                      refine wpAnyH_take (i := 10) (v := .slice dU (sortL (c.set z rn)).length mU) rfl (by kernel_rfl) (by kernel_rfl) (by kernel_rfl) (fun _ _ _ h => h) (Or.inl ⟨by rfl, by intro wx hx; go_simp⟩) (by assumption) ?_
                      try simp only [List.getElem_toArray, List.getElem_cons_succ, List.getElem_cons_zero, Act.put, List.setIfInBounds_toArray, List.set_cons_zero, List.set_cons_succ]
                      refine wpAnyH_done (by kernel_rfl) ?_ _
                      go_wp2_with fail
                      refine region_held_from (w0 := w5) (S := fun u => u.cell? ⟨bP, oP + q, none⟩ = some (.slice (some ⟨bc, oc, none⟩) c.length m1) ∧ u.cell? ⟨bX, oX + j, none⟩ = some (.int .i64 rn) ∧ u.cell? ⟨bx, 0, none⟩ = some (.slice (some ⟨bM, oM, none⟩) M.length c1) ∧ u.cell? ⟨bc, oc + z, none⟩ = some (.int .i64 (x : Int)) ∧ u.cell? ⟨bM, oM + x, none⟩ = some (.slice (some ⟨bR, oR, none⟩) Rx.length mR) ∧ u.cell? ⟨bR, oR + rn, none⟩ = some (.int .i64 dc) ∧ u.cell? ⟨g, j + 1, none⟩ = some (.slice (some ⟨gk, 0, none⟩) P.length mk) ∧ u.cell? ⟨gk, t', none⟩ = some (.int .i64 wt)) (by kernel_rfl) (fun u e => hSb.out u (Ext.trans e5q e)) (fun wd ed hHeld0 => ?_)
                      have eqd : Ext wq wd := Ext.trans e5q ed
                      refine wpAnyH_take (i := 0) (v := .pointer (some ⟨bx, 0, none⟩)) rfl (by kernel_rfl) (by kernel_rfl) (by kernel_rfl) (fun _ _ _ h => h) (Or.inl ⟨by rfl, by intro wx hx; go_simp⟩) (by assumption) ?_
                      try simp only [List.getElem_toArray, List.getElem_cons_zero, Act.put, List.setIfInBounds_toArray, List.set_cons_zero, List.set_cons_succ]
                      refine wpAnyH_take (i := 1) (v := .slice (some ⟨bM, oM, none⟩) M.length c1) rfl (by kernel_rfl) (by kernel_rfl) (by kernel_rfl) (fun _ _ _ h => h) (Or.inl ⟨by rfl, by intro wx hx; obtain ⟨_, _, _, _, _, _, _, _⟩ := hx; go_simp⟩) (by assumption) ?_
                      try simp only [List.getElem_toArray, List.getElem_cons_succ, List.getElem_cons_zero, Act.put, List.setIfInBounds_toArray, List.set_cons_zero, List.set_cons_succ]
                      refine wpAnyH_take (i := 2) (v := .slice (some ⟨bP, oP, none⟩) P.length cP) rfl (by kernel_rfl) (by kernel_rfl) (by kernel_rfl) (fun _ _ _ h => h) (Or.inl ⟨by rfl, by intro wx hx; go_simp⟩) (by assumption) ?_
                      try simp only [List.getElem_toArray, List.getElem_cons_succ, List.getElem_cons_zero, Act.put, List.setIfInBounds_toArray, List.set_cons_zero, List.set_cons_succ]
                      refine wpAnyH_take (i := 3) (v := .int .i64 q) rfl (by kernel_rfl) (by kernel_rfl) (by kernel_rfl) (fun _ _ _ h => h) (Or.inl ⟨by rfl, by intro wx hx; go_simp⟩) (by assumption) ?_
                      try simp only [List.getElem_toArray, List.getElem_cons_succ, List.getElem_cons_zero, Act.put, List.setIfInBounds_toArray, List.set_cons_zero, List.set_cons_succ]
                      refine wpAnyH_take (i := 4) (v := .pointer (some ⟨bP, oP + q, none⟩)) rfl (by kernel_rfl) (by kernel_rfl) (by kernel_rfl) (fun _ _ _ h => h) (Or.inl ⟨by rfl, by intro wx hx; go_simp⟩) (by assumption) ?_
                      try simp only [List.getElem_toArray, List.getElem_cons_succ, List.getElem_cons_zero, Act.put, List.setIfInBounds_toArray, List.set_cons_zero, List.set_cons_succ]
                      refine wpAnyH_take (i := 5) (v := .slice (some ⟨bc, oc, none⟩) c.length m1) rfl (by kernel_rfl) (by kernel_rfl) (by kernel_rfl) (fun _ _ _ h => h) (Or.inl ⟨by rfl, by intro wx hx; obtain ⟨_, _, _, _, _, _, _, _⟩ := hx; go_simp⟩) (by assumption) ?_
                      try simp only [List.getElem_toArray, List.getElem_cons_succ, List.getElem_cons_zero, Act.put, List.setIfInBounds_toArray, List.set_cons_zero, List.set_cons_succ]
                      refine wpAnyH_take (i := 6) (v := .int .i64 z) rfl (by kernel_rfl) (by kernel_rfl) (by kernel_rfl) (fun _ _ _ h => h) (Or.inl ⟨by rfl, by intro wx hx; go_simp⟩) (by assumption) ?_
                      try simp only [List.getElem_toArray, List.getElem_cons_succ, List.getElem_cons_zero, Act.put, List.setIfInBounds_toArray, List.set_cons_zero, List.set_cons_succ]
                      refine wpAnyH_take (i := 7) (v := .pointer (some ⟨bc, oc + z, none⟩)) rfl (by kernel_rfl) (by kernel_rfl) (by kernel_rfl) (fun _ _ _ h => h) (Or.inl ⟨by rfl, by intro wx hx; go_simp⟩) (by assumption) ?_
                      try simp only [List.getElem_toArray, List.getElem_cons_succ, List.getElem_cons_zero, Act.put, List.setIfInBounds_toArray, List.set_cons_zero, List.set_cons_succ]
                      refine wpAnyH_take (i := 8) (v := .int .i64 x) rfl (by kernel_rfl) (by kernel_rfl) (by kernel_rfl) (fun _ _ _ h => h) (Or.inl ⟨by rfl, by intro wx hx; obtain ⟨_, _, _, _, _, _, _, _⟩ := hx; go_simp⟩) (by assumption) ?_
                      try simp only [List.getElem_toArray, List.getElem_cons_succ, List.getElem_cons_zero, Act.put, List.setIfInBounds_toArray, List.set_cons_zero, List.set_cons_succ]
                      refine wpAnyH_take (i := 9) (v := .pointer (some ⟨bM, oM + x, none⟩)) rfl (by kernel_rfl) (by kernel_rfl) (by kernel_rfl) (fun _ _ _ h => h) (Or.inl ⟨by rfl, by intro wx hx; go_simp⟩) (by assumption) ?_
                      try simp only [List.getElem_toArray, List.getElem_cons_succ, List.getElem_cons_zero, Act.put, List.setIfInBounds_toArray, List.set_cons_zero, List.set_cons_succ]
                      refine wpAnyH_take (i := 10) (v := .slice (some ⟨bR, oR, none⟩) Rx.length mR) rfl (by kernel_rfl) (by kernel_rfl) (by kernel_rfl) (fun _ _ _ h => h) (Or.inl ⟨by rfl, by intro wx hx; obtain ⟨_, _, _, _, _, _, _, _⟩ := hx; go_simp⟩) (by assumption) ?_
                      try simp only [List.getElem_toArray, List.getElem_cons_succ, List.getElem_cons_zero, Act.put, List.setIfInBounds_toArray, List.set_cons_zero, List.set_cons_succ]
                      refine wpAnyH_take (i := 11) (v := .slice (some ⟨bX, oX, none⟩) X.length mX) rfl (by kernel_rfl) (by kernel_rfl) (by kernel_rfl) (fun _ _ _ h => h) (Or.inl ⟨by rfl, by intro wx hx; go_simp⟩) (by assumption) ?_
                      try simp only [List.getElem_toArray, List.getElem_cons_succ, List.getElem_cons_zero, Act.put, List.setIfInBounds_toArray, List.set_cons_zero, List.set_cons_succ]
                      refine wpAnyH_take (i := 12) (v := .int .i64 j) rfl (by kernel_rfl) (by kernel_rfl) (by kernel_rfl) (fun _ _ _ h => h) (Or.inl ⟨by rfl, by intro wx hx; go_simp⟩) (by assumption) ?_
                      try simp only [List.getElem_toArray, List.getElem_cons_succ, List.getElem_cons_zero, Act.put, List.setIfInBounds_toArray, List.set_cons_zero, List.set_cons_succ]
                      refine wpAnyH_take (i := 13) (v := .pointer (some ⟨bX, oX + j, none⟩)) rfl (by kernel_rfl) (by kernel_rfl) (by kernel_rfl) (fun _ _ _ h => h) (Or.inl ⟨by rfl, by intro wx hx; go_simp⟩) (by assumption) ?_
                      try simp only [List.getElem_toArray, List.getElem_cons_succ, List.getElem_cons_zero, Act.put, List.setIfInBounds_toArray, List.set_cons_zero, List.set_cons_succ]
                      refine wpAnyH_take (i := 14) (v := .int .i64 rn) rfl (by kernel_rfl) (by kernel_rfl) (by kernel_rfl) (fun _ _ _ h => h) (Or.inl ⟨by rfl, by intro wx hx; obtain ⟨_, _, _, _, _, _, _, _⟩ := hx; go_simp⟩) (by assumption) ?_
                      try simp only [List.getElem_toArray, List.getElem_cons_succ, List.getElem_cons_zero, Act.put, List.setIfInBounds_toArray, List.set_cons_zero, List.set_cons_succ]
                      refine wpAnyH_take (i := 15) (v := .pointer (some ⟨bR, oR + rn, none⟩)) rfl (by kernel_rfl) (by kernel_rfl) (by kernel_rfl) (fun _ _ _ h => h) (Or.inl ⟨by rfl, by intro wx hx; go_simp⟩) (by assumption) ?_
                      try simp only [List.getElem_toArray, List.getElem_cons_succ, List.getElem_cons_zero, Act.put, List.setIfInBounds_toArray, List.set_cons_zero, List.set_cons_succ]
                      refine wpAnyH_take (i := 16) (v := .int .i64 dc) rfl (by kernel_rfl) (by kernel_rfl) (by kernel_rfl) (fun _ _ _ h => h) (Or.inl ⟨by rfl, by intro wx hx; obtain ⟨_, _, _, _, _, _, _, _⟩ := hx; go_simp⟩) (by assumption) ?_
                      try simp only [List.getElem_toArray, List.getElem_cons_succ, List.getElem_cons_zero, Act.put, List.setIfInBounds_toArray, List.set_cons_zero, List.set_cons_succ]
                      refine wpAnyH_take (i := 17) (v := .slice (some ⟨g, 0, none⟩) (X.length + 1) mO) rfl (by kernel_rfl) (by kernel_rfl) (by kernel_rfl) (fun _ _ _ h => h) (Or.inl ⟨by rfl, by intro wx hx; go_simp⟩) (by assumption) ?_
                      try simp only [List.getElem_toArray, List.getElem_cons_succ, List.getElem_cons_zero, Act.put, List.setIfInBounds_toArray, List.set_cons_zero, List.set_cons_succ]
                      refine wpAnyH_take (i := 18) (v := .int .i64 j) rfl (by kernel_rfl) (by kernel_rfl) (by kernel_rfl) (fun _ _ _ h => h) (Or.inl ⟨by rfl, by intro wx hx; go_simp⟩) (by assumption) ?_
                      try simp only [List.getElem_toArray, List.getElem_cons_succ, List.getElem_cons_zero, Act.put, List.setIfInBounds_toArray, List.set_cons_zero, List.set_cons_succ]
                      refine wpAnyH_take (i := 19) (v := .int .i64 ((j : Int) + 1)) rfl (by kernel_rfl) (by kernel_rfl) (by kernel_rfl) (fun _ _ _ h => h) (Or.inl ⟨by rfl, by intro wx hx; (go_simp; exact IntWalk.i64_in _ (by omega))⟩) (by assumption) ?_
                      try simp only [List.getElem_toArray, List.getElem_cons_succ, List.getElem_cons_zero, Act.put, List.setIfInBounds_toArray, List.set_cons_zero, List.set_cons_succ]
                      refine wpAnyH_take (i := 20) (v := .pointer (some ⟨g, j + 1, none⟩)) rfl (by kernel_rfl) (by kernel_rfl) (by kernel_rfl) (fun _ _ _ h => h) (Or.inl ⟨by rfl, by intro wx hx; (go_simp; intro hq; exfalso; omega)⟩) (by assumption) ?_
                      try simp only [List.getElem_toArray, List.getElem_cons_succ, List.getElem_cons_zero, Act.put, List.setIfInBounds_toArray, List.set_cons_zero, List.set_cons_succ]
                      refine wpAnyH_take (i := 21) (v := .slice (some ⟨gk, 0, none⟩) P.length mk) rfl (by kernel_rfl) (by kernel_rfl) (by kernel_rfl) (fun _ _ _ h => h) (Or.inl ⟨by rfl, by intro wx hx; obtain ⟨_, _, _, _, _, _, _, _⟩ := hx; go_simp⟩) (by assumption) ?_
                      try simp only [List.getElem_toArray, List.getElem_cons_succ, List.getElem_cons_zero, Act.put, List.setIfInBounds_toArray, List.set_cons_zero, List.set_cons_succ]
                      refine wpAnyH_take (i := 22) (v := .slice (some ⟨bP, oP, none⟩) P.length cP) rfl (by kernel_rfl) (by kernel_rfl) (by kernel_rfl) (fun _ _ _ h => h) (Or.inl ⟨by rfl, by intro wx hx; go_simp⟩) (by assumption) ?_
                      try simp only [List.getElem_toArray, List.getElem_cons_succ, List.getElem_cons_zero, Act.put, List.setIfInBounds_toArray, List.set_cons_zero, List.set_cons_succ]
                      refine wpAnyH_take (i := 23) (v := .slice dU (sortL (c.set z rn)).length mU) rfl (by kernel_rfl) (by kernel_rfl) (by kernel_rfl) (fun _ _ _ h => h) (Or.inl ⟨by rfl, by intro wx hx; go_simp⟩) (by assumption) ?_
                      try simp only [List.getElem_toArray, List.getElem_cons_succ, List.getElem_cons_zero, Act.put, List.setIfInBounds_toArray, List.set_cons_zero, List.set_cons_succ]
                      refine wpAnyH_ready (rs := [24]) (by kernel_rfl) (by simp) ?_
                      refine AllReadyH.cons rfl (fun K hK => ?_) AllReadyH.nil
                      go_simp
                      go_at_call 81
                      refine (l7Index_any (w0 := wd) (w := wd) (hP.ext (e := Ext.trans e0q eqd)) (hU.ext (e := ed)) hmem.out).mono ?_
                      rw [hat.out]
                      rintro e w6 ⟨rfl, e6⟩
                      have e6q : Ext wq w6 := Ext.trans eqd e6
                      have hS6 := hSb.out w6 e6q
                      go_wp2_with fail
                      refine hK.out _ _ hS6 (fun _ => ?_)
                      clear hK K
                      try simp only [List.getElem_toArray, List.getElem_cons_succ, List.getElem_cons_zero, Act.put, List.setIfInBounds_toArray, List.set_cons_zero, List.set_cons_succ]
                      refine wpAnyH_take (i := 25) (v := .pointer (some ⟨gk, t', none⟩)) rfl (by kernel_rfl) (by kernel_rfl) (by kernel_rfl) (fun _ _ _ h => h) (Or.inl ⟨by rfl, by intro wx hx; go_simp⟩) (by assumption) ?_
                      try simp only [List.getElem_toArray, List.getElem_cons_succ, List.getElem_cons_zero, Act.put, List.setIfInBounds_toArray, List.set_cons_zero, List.set_cons_succ]
                      refine wpAnyH_take (i := 26) (v := .int .i64 wt) rfl (by kernel_rfl) (by kernel_rfl) (by kernel_rfl) (fun _ _ _ h => h) (Or.inl ⟨by rfl, by intro wx hx; obtain ⟨_, _, _, _, _, _, _, _⟩ := hx; go_simp⟩) (by assumption) ?_
                      try simp only [List.getElem_toArray, List.getElem_cons_succ, List.getElem_cons_zero, Act.put, List.setIfInBounds_toArray, List.set_cons_zero, List.set_cons_succ]
                      refine wpAnyH_take (i := 27) (v := .int .i64 (dc + wt)) rfl (by kernel_rfl) (by kernel_rfl) (by kernel_rfl) (fun _ _ _ h => h) (Or.inl ⟨by rfl, by intro wx hx; go_simp⟩) (by assumption) ?_
                      try simp only [List.getElem_toArray, List.getElem_cons_succ, List.getElem_cons_zero, Act.put, List.setIfInBounds_toArray, List.set_cons_zero, List.set_cons_succ]
                      refine wpAnyH_take (i := 28) (v := .int .i64 (dc + wt)) rfl (by kernel_rfl) (by kernel_rfl) (by kernel_rfl) (fun _ _ _ h => h) (Or.inl ⟨by rfl, by intro wx hx; go_simp⟩) (by assumption) ?_
                      try simp only [List.getElem_toArray, List.getElem_cons_succ, List.getElem_cons_zero, Act.put, List.setIfInBounds_toArray, List.set_cons_zero, List.set_cons_succ]
                      refine wpAnyH_done (by kernel_rfl) ?_ _
                      go_wp2_with fail
                      go_roundw
                      case rel => exact ⟨z + 1, by omega, by go_num, by rw [hy.out], e6q⟩
                      case measure => simp [intOf]; omega
                    · have hl1d : decide (dc + wt < l) = false := decide_eq_false hl1'
                      have hy := hid (show snAt M P R1 rn q (z + 1) = l by rw [hnx.out, if_neg (by omega)])
                      clear hnx
                      go_wp2_with fail
                      refine region_held_from (w0 := wq) (S := fun u => u.cell? ⟨bP, oP + q, none⟩ = some (.slice (some ⟨bc, oc, none⟩) c.length m1) ∧ u.cell? ⟨bX, oX + j, none⟩ = some (.int .i64 rn)) (by kernel_rfl) hSa.out (fun wd ed hHeld0 => ?_)
                      have e0d : Ext w0 wd := Ext.trans e0q ed
                      refine wpAnyH_take (i := 0) (v := .slice (some ⟨bP, oP, none⟩) P.length cP) rfl (by kernel_rfl) (by kernel_rfl) (by kernel_rfl) (fun _ _ _ h => h) (Or.inl ⟨by rfl, by intro wx hx; go_simp⟩) (by assumption) ?_
                      try simp only [List.getElem_toArray, List.getElem_cons_zero, Act.put, List.setIfInBounds_toArray, List.set_cons_zero, List.set_cons_succ]
                      refine wpAnyH_take (i := 1) (v := .int .i64 q) rfl (by kernel_rfl) (by kernel_rfl) (by kernel_rfl) (fun _ _ _ h => h) (Or.inl ⟨by rfl, by intro wx hx; go_simp⟩) (by assumption) ?_
                      try simp only [List.getElem_toArray, List.getElem_cons_succ, List.getElem_cons_zero, Act.put, List.setIfInBounds_toArray, List.set_cons_zero, List.set_cons_succ]
                      refine wpAnyH_take (i := 2) (v := .pointer (some ⟨bP, oP + q, none⟩)) rfl (by kernel_rfl) (by kernel_rfl) (by kernel_rfl) (fun _ _ _ h => h) (Or.inl ⟨by rfl, by intro wx hx; go_simp⟩) (by assumption) ?_
                      try simp only [List.getElem_toArray, List.getElem_cons_succ, List.getElem_cons_zero, Act.put, List.setIfInBounds_toArray, List.set_cons_zero, List.set_cons_succ]
                      refine wpAnyH_take (i := 3) (v := .slice (some ⟨bc, oc, none⟩) c.length m1) rfl (by kernel_rfl) (by kernel_rfl) (by kernel_rfl) (fun _ _ _ h => h) (Or.inl ⟨by rfl, by intro wx hx; obtain ⟨_, _⟩ := hx; go_simp⟩) (by assumption) ?_
                      try simp only [List.getElem_toArray, List.getElem_cons_succ, List.getElem_cons_zero, Act.put, List.setIfInBounds_toArray, List.set_cons_zero, List.set_cons_succ]
                      refine wpAnyH_take (i := 4) (v := .int .i64 z) rfl (by kernel_rfl) (by kernel_rfl) (by kernel_rfl) (fun _ _ _ h => h) (Or.inl ⟨by rfl, by intro wx hx; go_simp⟩) (by assumption) ?_
                      try simp only [List.getElem_toArray, List.getElem_cons_succ, List.getElem_cons_zero, Act.put, List.setIfInBounds_toArray, List.set_cons_zero, List.set_cons_succ]
                      refine wpAnyH_take (i := 5) (v := .slice (some ⟨bX, oX, none⟩) X.length mX) rfl (by kernel_rfl) (by kernel_rfl) (by kernel_rfl) (fun _ _ _ h => h) (Or.inl ⟨by rfl, by intro wx hx; go_simp⟩) (by assumption) ?_
                      try simp only [List.getElem_toArray, List.getElem_cons_succ, List.getElem_cons_zero, Act.put, List.setIfInBounds_toArray, List.set_cons_zero, List.set_cons_succ]
                      refine wpAnyH_take (i := 6) (v := .int .i64 j) rfl (by kernel_rfl) (by kernel_rfl) (by kernel_rfl) (fun _ _ _ h => h) (Or.inl ⟨by rfl, by intro wx hx; go_simp⟩) (by assumption) ?_
                      try simp only [List.getElem_toArray, List.getElem_cons_succ, List.getElem_cons_zero, Act.put, List.setIfInBounds_toArray, List.set_cons_zero, List.set_cons_succ]
                      refine wpAnyH_take (i := 7) (v := .pointer (some ⟨bX, oX + j, none⟩)) rfl (by kernel_rfl) (by kernel_rfl) (by kernel_rfl) (fun _ _ _ h => h) (Or.inl ⟨by rfl, by intro wx hx; go_simp⟩) (by assumption) ?_
                      try simp only [List.getElem_toArray, List.getElem_cons_succ, List.getElem_cons_zero, Act.put, List.setIfInBounds_toArray, List.set_cons_zero, List.set_cons_succ]
                      refine wpAnyH_take (i := 8) (v := .int .i64 rn) rfl (by kernel_rfl) (by kernel_rfl) (by kernel_rfl) (fun _ _ _ h => h) (Or.inl ⟨by rfl, by intro wx hx; obtain ⟨_, _⟩ := hx; go_simp⟩) (by assumption) ?_
                      try simp only [List.getElem_toArray, List.getElem_cons_succ, List.getElem_cons_zero, Act.put, List.setIfInBounds_toArray, List.set_cons_zero, List.set_cons_succ]
                      refine wpAnyH_ready (rs := [9]) (by kernel_rfl) (by simp) ?_
                      refine AllReadyH.cons rfl (fun K hK => ?_) AllReadyH.nil
                      go_simp
                      go_at_call 128
                      refine (l7Swap_any (w0 := w0) hi1 hsc hri.out (by omega)).mono ?_
                      rintro e w5 ⟨u5, rfl, own5, e5⟩
                      have e5q : Ext wq w5 := Ext.trans ed e5
                      have hU : IsInts w5 u5 (sortL (c.set z rn)) := own5.reads (by unfold Short; rw [hswl.out]; omega) hswi.out
                      clear own5
                      have hS5 := hSa.out w5 e5q
                      obtain ⟨dU, mU, rfl, lU⟩ := hU.form
                      go_wp2_with fail
                      refine hK.out _ _ hS5 (fun _ => ?_)
                      clear hK K
                      try simp only [List.getElem_toArray, List.getElem_cons_succ, List.getElem_cons_zero, Act.put, List.setIfInBounds_toArray, List.set_cons_zero, List.set_cons_succ]
                      refine wpAnyH_take (i := 10) (v := .slice dU (sortL (c.set z rn)).length mU) rfl (by kernel_rfl) (by kernel_rfl) (by kernel_rfl) (fun _ _ _ h => h) (Or.inl ⟨by rfl, by intro wx hx; go_simp⟩) (by assumption) ?_
                      try simp only [List.getElem_toArray, List.getElem_cons_succ, List.getElem_cons_zero, Act.put, List.setIfInBounds_toArray, List.set_cons_zero, List.set_cons_succ]
                      refine wpAnyH_done (by kernel_rfl) ?_ _
                      go_wp2_with fail
                      refine region_held_from (w0 := w5) (S := fun u => u.cell? ⟨bP, oP + q, none⟩ = some (.slice (some ⟨bc, oc, none⟩) c.length m1) ∧ u.cell? ⟨bX, oX + j, none⟩ = some (.int .i64 rn) ∧ u.cell? ⟨bx, 0, none⟩ = some (.slice (some ⟨bM, oM, none⟩) M.length c1) ∧ u.cell? ⟨bc, oc + z, none⟩ = some (.int .i64 (x : Int)) ∧ u.cell? ⟨bM, oM + x, none⟩ = some (.slice (some ⟨bR, oR, none⟩) Rx.length mR) ∧ u.cell? ⟨bR, oR + rn, none⟩ = some (.int .i64 dc) ∧ u.cell? ⟨g, j + 1, none⟩ = some (.slice (some ⟨gk, 0, none⟩) P.length mk) ∧ u.cell? ⟨gk, t', none⟩ = some (.int .i64 wt)) (by kernel_rfl) (fun u e => hSb.out u (Ext.trans e5q e)) (fun wd ed hHeld0 => ?_)
                      have eqd : Ext wq wd := Ext.trans e5q ed
                      refine wpAnyH_take (i := 0) (v := .pointer (some ⟨bx, 0, none⟩)) rfl (by kernel_rfl) (by kernel_rfl) (by kernel_rfl) (fun _ _ _ h => h) (Or.inl ⟨by rfl, by intro wx hx; go_simp⟩) (by assumption) ?_
                      try simp only [List.getElem_toArray, List.getElem_cons_zero, Act.put, List.setIfInBounds_toArray, List.set_cons_zero, List.set_cons_succ]
                      refine wpAnyH_take (i := 1) (v := .slice (some ⟨bM, oM, none⟩) M.length c1) rfl (by kernel_rfl) (by kernel_rfl) (by kernel_rfl) (fun _ _ _ h => h) (Or.inl ⟨by rfl, by intro wx hx; obtain ⟨_, _, _, _, _, _, _, _⟩ := hx; go_simp⟩) (by assumption) ?_
                      try simp only [List.getElem_toArray, List.getElem_cons_succ, List.getElem_cons_zero, Act.put, List.setIfInBounds_toArray, List.set_cons_zero, List.set_cons_succ]
                      refine wpAnyH_take (i := 2) (v := .slice (some ⟨bP, oP, none⟩) P.length cP) rfl (by kernel_rfl) (by kernel_rfl) (by kernel_rfl) (fun _ _ _ h => h) (Or.inl ⟨by rfl, by intro wx hx; go_simp⟩) (by assumption) ?_
                      try simp only [List.getElem_toArray, List.getElem_cons_succ, List.getElem_cons_zero, Act.put, List.setIfInBounds_toArray, List.set_cons_zero, List.set_cons_succ]
                      refine wpAnyH_take (i := 3) (v := .int .i64 q) rfl (by kernel_rfl) (by kernel_rfl) (by kernel_rfl) (fun _ _ _ h => h) (Or.inl ⟨by rfl, by intro wx hx; go_simp⟩) (by assumption) ?_
                      try simp only [List.getElem_toArray, List.getElem_cons_succ, List.getElem_cons_zero, Act.put, List.setIfInBounds_toArray, List.set_cons_zero, List.set_cons_succ]
                      refine wpAnyH_take (i := 4) (v := .pointer (some ⟨bP, oP + q, none⟩)) rfl (by kernel_rfl) (by kernel_rfl) (by kernel_rfl) (fun _ _ _ h => h) (Or.inl ⟨by rfl, by intro wx hx; go_simp⟩) (by assumption) ?_
                      try simp only [List.getElem_toArray, List.getElem_cons_succ, List.getElem_cons_zero, Act.put, List.setIfInBounds_toArray, List.set_cons_zero, List.set_cons_succ]
                      refine wpAnyH_take (i := 5) (v := .slice (some ⟨bc, oc, none⟩) c.length m1) rfl (by kernel_rfl) (by kernel_rfl) (by kernel_rfl) (fun _ _ _ h => h) (Or.inl ⟨by rfl, by intro wx hx; obtain ⟨_, _, _, _, _, _, _, _⟩ := hx; go_simp⟩) (by assumption) ?_
                      try simp only [List.getElem_toArray, List.getElem_cons_succ, List.getElem_cons_zero, Act.put, List.setIfInBounds_toArray, List.set_cons_zero, List.set_cons_succ]
                      refine wpAnyH_take (i := 6) (v := .int .i64 z) rfl (by kernel_rfl) (by kernel_rfl) (by kernel_rfl) (fun _ _ _ h => h) (Or.inl ⟨by rfl, by intro wx hx; go_simp⟩) (by assumption) ?_
                      try simp only [List.getElem_toArray, List.getElem_cons_succ, List.getElem_cons_zero, Act.put, List.setIfInBounds_toArray, List.set_cons_zero, List.set_cons_succ]
                      refine wpAnyH_take (i := 7) (v := .pointer (some ⟨bc, oc + z, none⟩)) rfl (by kernel_rfl) (by kernel_rfl) (by kernel_rfl) (fun _ _ _ h => h) (Or.inl ⟨by rfl, by intro wx hx; go_simp⟩) (by assumption) ?_
                      try simp only [List.getElem_toArray, List.getElem_cons_succ, List.getElem_cons_zero, Act.put, List.setIfInBounds_toArray, List.set_cons_zero, List.set_cons_succ]
                      refine wpAnyH_take (i := 8) (v := .int .i64 x) rfl (by kernel_rfl) (by kernel_rfl) (by kernel_rfl) (fun _ _ _ h => h) (Or.inl ⟨by rfl, by intro wx hx; obtain ⟨_, _, _, _, _, _, _, _⟩ := hx; go_simp⟩) (by assumption) ?_
                      try simp only [List.getElem_toArray, List.getElem_cons_succ, List.getElem_cons_zero, Act.put, List.setIfInBounds_toArray, List.set_cons_zero, List.set_cons_succ]
                      refine wpAnyH_take (i := 9) (v := .pointer (some ⟨bM, oM + x, none⟩)) rfl (by kernel_rfl) (by kernel_rfl) (by kernel_rfl) (fun _ _ _ h => h) (Or.inl ⟨by rfl, by intro wx hx; go_simp⟩) (by assumption) ?_
                      try simp only [List.getElem_toArray, List.getElem_cons_succ, List.getElem_cons_zero, Act.put, List.setIfInBounds_toArray, List.set_cons_zero, List.set_cons_succ]
                      refine wpAnyH_take (i := 10) (v := .slice (some ⟨bR, oR, none⟩) Rx.length mR) rfl (by kernel_rfl) (by kernel_rfl) (by kernel_rfl) (fun _ _ _ h => h) (Or.inl ⟨by rfl, by intro wx hx; obtain ⟨_, _, _, _, _, _, _, _⟩ := hx; go_simp⟩) (by assumption) ?_
                      try simp only [List.getElem_toArray, List.getElem_cons_succ, List.getElem_cons_zero, Act.put, List.setIfInBounds_toArray, List.set_cons_zero, List.set_cons_succ]
                      refine wpAnyH_take (i := 11) (v := .slice (some ⟨bX, oX, none⟩) X.length mX) rfl (by kernel_rfl) (by kernel_rfl) (by kernel_rfl) (fun _ _ _ h => h) (Or.inl ⟨by rfl, by intro wx hx; go_simp⟩) (by assumption) ?_
                      try simp only [List.getElem_toArray, List.getElem_cons_succ, List.getElem_cons_zero, Act.put, List.setIfInBounds_toArray, List.set_cons_zero, List.set_cons_succ]
                      refine wpAnyH_take (i := 12) (v := .int .i64 j) rfl (by kernel_rfl) (by kernel_rfl) (by kernel_rfl) (fun _ _ _ h => h) (Or.inl ⟨by rfl, by intro wx hx; go_simp⟩) (by assumption) ?_
                      try simp only [List.getElem_toArray, List.getElem_cons_succ, List.getElem_cons_zero, Act.put, List.setIfInBounds_toArray, List.set_cons_zero, List.set_cons_succ]
                      refine wpAnyH_take (i := 13) (v := .pointer (some ⟨bX, oX + j, none⟩)) rfl (by kernel_rfl) (by kernel_rfl) (by kernel_rfl) (fun _ _ _ h => h) (Or.inl ⟨by rfl, by intro wx hx; go_simp⟩) (by assumption) ?_
                      try simp only [List.getElem_toArray, List.getElem_cons_succ, List.getElem_cons_zero, Act.put, List.setIfInBounds_toArray, List.set_cons_zero, List.set_cons_succ]
                      refine wpAnyH_take (i := 14) (v := .int .i64 rn) rfl (by kernel_rfl) (by kernel_rfl) (by kernel_rfl) (fun _ _ _ h => h) (Or.inl ⟨by rfl, by intro wx hx; obtain ⟨_, _, _, _, _, _, _, _⟩ := hx; go_simp⟩) (by assumption) ?_
                      try simp only [List.getElem_toArray, List.getElem_cons_succ, List.getElem_cons_zero, Act.put, List.setIfInBounds_toArray, List.set_cons_zero, List.set_cons_succ]
                      refine wpAnyH_take (i := 15) (v := .pointer (some ⟨bR, oR + rn, none⟩)) rfl (by kernel_rfl) (by kernel_rfl) (by kernel_rfl) (fun _ _ _ h => h) (Or.inl ⟨by rfl, by intro wx hx; go_simp⟩) (by assumption) ?_
                      try simp only [List.getElem_toArray, List.getElem_cons_succ, List.getElem_cons_zero, Act.put, List.setIfInBounds_toArray, List.set_cons_zero, List.set_cons_succ]
                      refine wpAnyH_take (i := 16) (v := .int .i64 dc) rfl (by kernel_rfl) (by kernel_rfl) (by kernel_rfl) (fun _ _ _ h => h) (Or.inl ⟨by rfl, by intro wx hx; obtain ⟨_, _, _, _, _, _, _, _⟩ := hx; go_simp⟩) (by assumption) ?_
                      try simp only [List.getElem_toArray, List.getElem_cons_succ, List.getElem_cons_zero, Act.put, List.setIfInBounds_toArray, List.set_cons_zero, List.set_cons_succ]
                      refine wpAnyH_take (i := 17) (v := .slice (some ⟨g, 0, none⟩) (X.length + 1) mO) rfl (by kernel_rfl) (by kernel_rfl) (by kernel_rfl) (fun _ _ _ h => h) (Or.inl ⟨by rfl, by intro wx hx; go_simp⟩) (by assumption) ?_
                      try simp only [List.getElem_toArray, List.getElem_cons_succ, List.getElem_cons_zero, Act.put, List.setIfInBounds_toArray, List.set_cons_zero, List.set_cons_succ]
                      refine wpAnyH_take (i := 18) (v := .int .i64 j) rfl (by kernel_rfl) (by kernel_rfl) (by kernel_rfl) (fun _ _ _ h => h) (Or.inl ⟨by rfl, by intro wx hx; go_simp⟩) (by assumption) ?_
                      try simp only [List.getElem_toArray, List.getElem_cons_succ, List.getElem_cons_zero, Act.put, List.setIfInBounds_toArray, List.set_cons_zero, List.set_cons_succ]
                      refine wpAnyH_take (i := 19) (v := .int .i64 ((j : Int) + 1)) rfl (by kernel_rfl) (by kernel_rfl) (by kernel_rfl) (fun _ _ _ h => h) (Or.inl ⟨by rfl, by intro wx hx; (go_simp; exact IntWalk.i64_in _ (by omega))⟩) (by assumption) ?_
                      try simp only [List.getElem_toArray, List.getElem_cons_succ, List.getElem_cons_zero, Act.put, List.setIfInBounds_toArray, List.set_cons_zero, List.set_cons_succ]
                      refine wpAnyH_take (i := 20) (v := .pointer (some ⟨g, j + 1, none⟩)) rfl (by kernel_rfl) (by kernel_rfl) (by kernel_rfl) (fun _ _ _ h => h) (Or.inl ⟨by rfl, by intro wx hx; (go_simp; intro hq; exfalso; omega)⟩) (by assumption) ?_
                      try simp only [List.getElem_toArray, List.getElem_cons_succ, List.getElem_cons_zero, Act.put, List.setIfInBounds_toArray, List.set_cons_zero, List.set_cons_succ]
                      refine wpAnyH_take (i := 21) (v := .slice (some ⟨gk, 0, none⟩) P.length mk) rfl (by kernel_rfl) (by kernel_rfl) (by kernel_rfl) (fun _ _ _ h => h) (Or.inl ⟨by rfl, by intro wx hx; obtain ⟨_, _, _, _, _, _, _, _⟩ := hx; go_simp⟩) (by assumption) ?_
                      try simp only [List.getElem_toArray, List.getElem_cons_succ, List.getElem_cons_zero, Act.put, List.setIfInBounds_toArray, List.set_cons_zero, List.set_cons_succ]
                      refine wpAnyH_take (i := 22) (v := .slice (some ⟨bP, oP, none⟩) P.length cP) rfl (by kernel_rfl) (by kernel_rfl) (by kernel_rfl) (fun _ _ _ h => h) (Or.inl ⟨by rfl, by intro wx hx; go_simp⟩) (by assumption) ?_
                      try simp only [List.getElem_toArray, List.getElem_cons_succ, List.getElem_cons_zero, Act.put, List.setIfInBounds_toArray, List.set_cons_zero, List.set_cons_succ]
                      refine wpAnyH_take (i := 23) (v := .slice dU (sortL (c.set z rn)).length mU) rfl (by kernel_rfl) (by kernel_rfl) (by kernel_rfl) (fun _ _ _ h => h) (Or.inl ⟨by rfl, by intro wx hx; go_simp⟩) (by assumption) ?_
                      try simp only [List.getElem_toArray, List.getElem_cons_succ, List.getElem_cons_zero, Act.put, List.setIfInBounds_toArray, List.set_cons_zero, List.set_cons_succ]
                      refine wpAnyH_ready (rs := [24]) (by kernel_rfl) (by simp) ?_
                      refine AllReadyH.cons rfl (fun K hK => ?_) AllReadyH.nil
                      go_simp
                      go_at_call 81
                      refine (l7Index_any (w0 := wd) (w := wd) (hP.ext (e := Ext.trans e0q eqd)) (hU.ext (e := ed)) hmem.out).mono ?_
                      rw [hat.out]
                      rintro e w6 ⟨rfl, e6⟩
                      have e6q : Ext wq w6 := Ext.trans eqd e6
                      have hS6 := hSb.out w6 e6q
                      go_wp2_with fail
                      refine hK.out _ _ hS6 (fun _ => ?_)
                      clear hK K
                      try simp only [List.getElem_toArray, List.getElem_cons_succ, List.getElem_cons_zero, Act.put, List.setIfInBounds_toArray, List.set_cons_zero, List.set_cons_succ]
                      refine wpAnyH_take (i := 25) (v := .pointer (some ⟨gk, t', none⟩)) rfl (by kernel_rfl) (by kernel_rfl) (by kernel_rfl) (fun _ _ _ h => h) (Or.inl ⟨by rfl, by intro wx hx; go_simp⟩) (by assumption) ?_
                      try simp only [List.getElem_toArray, List.getElem_cons_succ, List.getElem_cons_zero, Act.put, List.setIfInBounds_toArray, List.set_cons_zero, List.set_cons_succ]
                      refine wpAnyH_take (i := 26) (v := .int .i64 wt) rfl (by kernel_rfl) (by kernel_rfl) (by kernel_rfl) (fun _ _ _ h => h) (Or.inl ⟨by rfl, by intro wx hx; obtain ⟨_, _, _, _, _, _, _, _⟩ := hx; go_simp⟩) (by assumption) ?_
                      try simp only [List.getElem_toArray, List.getElem_cons_succ, List.getElem_cons_zero, Act.put, List.setIfInBounds_toArray, List.set_cons_zero, List.set_cons_succ]
                      refine wpAnyH_take (i := 27) (v := .int .i64 (dc + wt)) rfl (by kernel_rfl) (by kernel_rfl) (by kernel_rfl) (fun _ _ _ h => h) (Or.inl ⟨by rfl, by intro wx hx; go_simp⟩) (by assumption) ?_
                      try simp only [List.getElem_toArray, List.getElem_cons_succ, List.getElem_cons_zero, Act.put, List.setIfInBounds_toArray, List.set_cons_zero, List.set_cons_succ]
                      refine wpAnyH_take (i := 28) (v := .int .i64 (dc + wt)) rfl (by kernel_rfl) (by kernel_rfl) (by kernel_rfl) (fun _ _ _ h => h) (Or.inl ⟨by rfl, by intro wx hx; go_simp⟩) (by assumption) ?_
                      try simp only [List.getElem_toArray, List.getElem_cons_succ, List.getElem_cons_zero, Act.put, List.setIfInBounds_toArray, List.set_cons_zero, List.set_cons_succ]
                      refine wpAnyH_done (by kernel_rfl) ?_ _
                      go_wp2_with fail
                      go_roundw
                      case rel => exact ⟨z + 1, by omega, by go_num, by rw [hy.out], e6q⟩
                      case measure => simp [intOf]; omega
                · have hzk : z = k := by omega
                  have hval := hid (show snAt M P R1 rn q z = nth R0 q by rw [hzk]; exact hN1.out q hltq)
                  rw [hval.out]
                  replace hzk := hid hzk
                  have tabv := tab.ext (w' := wv)
                  obtain ⟨gj, mj, hcj, hBj, hrd⟩ := tabv.rd hT2l.out (i := j) (by omega) (by rw [hrj.out, prt_len]; omega)
                  rw [hrj.out, prt_len] at hcj hrd
                  obtain ⟨hcq, hfq, hput⟩ := hrd q hltq
                  have hset := hid (show ∀ x, (T.set j (prt R0 P.length q)).set j ((prt R0 P.length q).set q x) = T.set j ((prt R0 P.length q).set q x) from fun x => List.set_set ..)
                  have hput' := hput (nth R0 q)
                  rw [hset.out, prt_set] at hput'
                  have hbv : Below B W wv := hb.trans (eqr.below.mono hBq)
                  have hlv : j < X.length + 1 := by omega
                  generalize nth R0 q = y at *
                  clear hrd hput hrj hset tabv
                  go_wp2_with fail
                  go_roundw
                  case rel => exact ⟨q + 1, by omega, by go_num, hput', hbv.setCell hBj _⟩
                  case measure => simp [intOf]; omega
            · have hqP : q = P.length := by omega
              rw [hqP, prt_full hl0.out, hnext.out] at tab
              replace hqP := hid hqP
              go_wp2_with fail
              go_roundw
              case rel => exact ⟨s + 1, by omega, by have := hjr.out; omega, congrArg (Value.int .i64) (by have := hjr.out; omega), tab, hb⟩
              case measure => have := hjr.out; simp [intOf]
        · have hsX : s = X.length + 1 := by omega
          rw [show ((X.length : Int) - s) = -1 by omega]
          rw [hsX, reTab_all] at tab
          replace hsX := hid hsX
          have hT : Tab wo bx (.slice (some ⟨g, 0, none⟩) (X.length + 1) mO) (rsTab M P X (X.length + 1)) [] := tab.mono hbB.out
          go_wp2_with fail
          go_ret
          exact ⟨_, rfl, by rw [← hbx.out]; exact hT, Ext.trans eW (hEx.out _ hb)⟩
end Go.Proofs.YtmgcfnciejfpbaaGreat
