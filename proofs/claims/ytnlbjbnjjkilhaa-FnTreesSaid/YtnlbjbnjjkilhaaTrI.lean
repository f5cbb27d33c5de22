/- The program's metric of a tree walked: TreeMetric. -/
import Derived.Test.YtnlbjbnjjkilhaaTrG
import Derived.Test.YtnlbjbnjjkilhaaTrE
import Derived.Test.YtnlbjbnjjkilhaaRepB
import Derived.Test.YtnlbjbnjjkilhaaPackA
namespace Go.Proofs.Ytnlbjbnjjkilhaa
open Go.RowKit

theorem edV_more {pa : Nat → Nat} {le : Nat → Int} {x q : Nat} {l : Int} (hp : pa x = q) (hl : le x = l) (hq : q < x) (u v : Nat) :
    edV pa le (x + 1) (x + 1) (-1) u v = if u = q ∧ v = x then l else if u = x ∧ v = q then l else if u = x ∧ v = x then 0 else edV pa le x x (-1) u v := by
  rw [edV_step (by omega), hp, hl]
  by_cases c1 : u = q ∧ v = x
  · rw [if_pos c1, if_pos c1]
  · rw [if_neg c1, if_neg c1]
    by_cases c2 : u = x ∧ v = q
    · rw [if_pos c2, if_pos c2]
    · rw [if_neg c2, if_neg c2]
      unfold edV
      by_cases e : u = v
      · subst e
        rw [if_pos rfl, if_pos rfl]
        by_cases c3 : u = x
        · rw [if_pos (show u < x + 1 by omega), if_pos (show u = x ∧ u = x from ⟨c3, c3⟩)]
        · rw [if_neg (show ¬ (u = x ∧ u = x) from fun h => c3 h.1)]
          by_cases c4 : u < x
          · rw [if_pos c4, if_pos (show u < x + 1 by omega)]
          · rw [if_neg c4, if_neg (show ¬ u < x + 1 by omega)]
      · rw [if_neg e, if_neg e, if_neg (show ¬ (u = x ∧ v = x) from fun h => e (h.1.trans h.2.symm))]
set_option maxHeartbeats 3200000 in
set_option maxRecDepth 100000 in
theorem implTM_any {vp vl : Value} {P L : List Int} {w0 w : World} [Ext w0 w] (hP : IsInts w0 vp P) (hL : IsInts w0 vl L) :
    Calls Try.prog 6 #[vp, vl] w (TMPost P L w) := by
  obtain ⟨dp, mp, rfl, lp⟩ := hP.form
  obtain ⟨dl, ml, rfl, ll⟩ := hL.form
  unfold TMPost
  go_enter Try.func6, Try.ntmps6
  go_upto_region 1 with fail
  have ez : Ext w (w.alloc (.cells #[.slice none 0 0] 29)) := inferInstance
  have z0 : (w.alloc (.cells #[.slice none 0 0] 29)).cell? ⟨w.heap.size, 0, none⟩ = some (.slice none 0 0) := by go_simp
  have zf : (w.alloc (.cells #[.slice none 0 0] 29)).frozen? ⟨w.heap.size, 0, none⟩ = false := by go_simp
  have zs : (w.alloc (.cells #[.slice none 0 0] 29)).heap.size = w.heap.size + 1 := by simp
  generalize w.alloc (.cells #[.slice none 0 0] 29) = wa at *
  obtain ⟨r, hr⟩ : ∃ r, r = w.heap.size := ⟨_, rfl⟩
  rw [← hr] at z0 zf ⊢
  have hrw := hid (show w.heap.size ≤ r by omega)
  replace hr := hid hr
  replace zs := hid zs
  have e0a : Ext w0 wa := Ext.trans ‹Ext w0 w› ez
  by_cases h5 : P.length ≤ 5
  · have h6 : ¬ (6 : Int) ≤ (P.length : Int) := by omega
    by_cases hll : L.length = P.length
    · rw [hll]
      obtain ⟨n, hn⟩ : ∃ n, n = P.length + 1 := ⟨_, rfl⟩
      have hnI : (P.length : Int) + 1 = (n : Int) := by omega
      have hll0 := hll
      replace hll := hid hll
      replace hnI := hid hnI
      replace hn := hid hn
      go_upto_region 4 with fail
      rw [hnI.out]
      go_upto_region 5 with fail
      have own0 : Own (wa.alloc (.cells #[.slice none 0 0] 29)) (w.heap.size + 1) (boxRow 29 1 wa.heap.size [.slice none 0 0] :: (rowsOf 24 3 (.slice none 0 0) [] [] ++ [])) :=
        ((Own.nil wa (w.heap.size + 1)).cons_nil 24 1).lit 29 1 1 #[.slice none 0 0] (by rw [zs.out]; exact Nat.le_refl _) (by unfold maxLen; omega) rfl
      have eW : Ext w (wa.alloc (.cells #[.slice none 0 0] 29)) := Ext.trans ez inferInstance
      have e1W : Ext wa (wa.alloc (.cells #[.slice none 0 0] 29)) := inferInstance
      have x0 := e1W.cell z0
      have xf := e1W.frozen z0 zf
      have hBW : w.heap.size + 1 ≤ (wa.alloc (.cells #[.slice none 0 0] 29)).heap.size := by have := e1W.size; have := zs.out; omega
      obtain ⟨b, hbb⟩ : ∃ b, b = wa.heap.size := ⟨_, rfl⟩
      rw [← hbb] at own0
      clear z0 zf
      generalize wa.alloc (.cells #[.slice none 0 0] 29) = W at *
      rw [← hbb]
      replace hbb := hid hbb
      obtain ⟨B, hB⟩ : ∃ B, B = w.heap.size + 1 := ⟨_, rfl⟩
      rw [← hB] at own0 hBW
      have hrB : r < B := by have := hr.out; omega
      have hlw : w.heap.size ≤ B := by omega
      replace hB := hid hB
      have e0W : Ext w0 W := Ext.trans ‹Ext w0 w› eW
      have hE := hid (show ∀ u, Below B W u → Ext w0 u from fun u h => ⟨e0W.below.trans (h.mono (Nat.le_trans (‹Ext w0 w›).size hlw))⟩)
      have hEw := hid (show ∀ u, Below B W u → Ext w u from fun u h => ⟨eW.below.trans (h.mono hlw)⟩)
      have hn1 := hid (show 1 ≤ n ∧ n ≤ 6 by have := hn.out; omega)
      go_upto_region 6 with fail
      obtain ⟨f, hf⟩ : ∃ f : Nat → Nat → Int, f = fun _ _ => -1 := ⟨_, rfl⟩
      replace hf := hid hf
      go_loopw [27] (fun i wr => ∃ x : Nat, x ≤ n ∧ i = .int .i64 x ∧ Below B W wr ∧ ∃ d0 m0 vs, Hid (vs.length = x) ∧ Own wr B (boxRow 29 1 b [.slice d0 x m0] :: (rowsOf 24 3 (.slice d0 x m0) vs (uniTab f n x) ++ []))) (fun i _ => n - (intOf i).toNat)
      case atStart => exact ⟨0, by omega, rfl, Below.refl _ _, none, 0, [], hid rfl, own0⟩
      case round =>
        clear own0
        obtain ⟨x, hx, rfl, hb0, d0, m0, vs, hvs, hown⟩ := hrel
        obtain ⟨wo, rfl⟩ : ∃ y : World, y = wr := ⟨_, rfl⟩
        by_cases hlt : x < n
        · go_upto_region 7 with fail
          have ed : Ext wo wo.drew := inferInstance
          have ownd := hown.ext (w' := wo.drew) (e := ed)
          have hbd : Below B W wo.drew := hb0.trans (ed.below.mono (Nat.le_trans hBW hb0.size))
          have tb : wo.drew.cell? ⟨b, 0, none⟩ = some (.slice d0 x m0) := ow_cell ownd (.head _) (j := 0) (by omega)
          clear hown hb0 ed
          have hx6 : x ≤ 6 := by have := hn1.out; omega
          refine wp_region_E_drew (X := fun i => i == 8) (S := fun u => u.cell? ⟨b, 0, none⟩ = some (.slice d0 x m0)) (by kernel_rfl) tb (fun hHeld0 => ?_)
          clear hHeld0
          generalize wo.drew = w1 at *
          refine wpAnyE_take (i := 0) (v := .pointer (some ⟨b, 0, none⟩)) rfl (by kernel_rfl) (by kernel_rfl) (by kernel_rfl) (fun _ _ _ h => h) (Or.inl ⟨by rfl, by intro wx hx; go_simp⟩) (by assumption) ?_
          try simp only [List.getElem_toArray, List.getElem_cons_zero, Act.put, List.setIfInBounds_toArray, List.set_cons_zero, List.set_cons_succ]
          refine wpAnyE_take (i := 1) (v := .slice d0 x m0) rfl (by kernel_rfl) (by kernel_rfl) (by kernel_rfl) (fun _ _ _ h => h) (Or.inl ⟨by rfl, by intro wx hx; go_simp⟩) (by assumption) ?_
          try simp only [List.getElem_toArray, List.getElem_cons_succ, List.getElem_cons_zero, Act.put, List.setIfInBounds_toArray, List.set_cons_zero, List.set_cons_succ]
          refine wpAnyE_take (i := 3) (v := .int .i64 n) rfl (by kernel_rfl) (by kernel_rfl) (by kernel_rfl) (fun _ _ _ h => h) (Or.inl ⟨by rfl, by intro wx hx; go_simp⟩) (by assumption) ?_
          try simp only [List.getElem_toArray, List.getElem_cons_succ, List.getElem_cons_zero, Act.put, List.setIfInBounds_toArray, List.set_cons_zero, List.set_cons_succ]
          refine wpAnyE_ready (rs := [2]) (by kernel_rfl) (by simp) ?_
          refine AllReadyE.cons rfl (fun K hK => ?_) AllReadyE.nil
          go_simp
          have hB1 : B ≤ w1.heap.size := Nat.le_trans hBW hbd.size
          have e2 : Ext w1 (w1.alloc (.cells #[.int .i64 (-1)] 3)) := inferInstance
          have i2 : IsInts (w1.alloc (.cells #[.int .i64 (-1)] 3)) (.slice (some ⟨w1.heap.size, 0, none⟩) 1 1) [-1] := by
            have h := Own.litInts (W := w1) (B := B) (e := 3) (cs := #[.int .i64 (-1)]) (xs := [-1]) hB1 rfl rfl (by simp) (n := 1) rfl
            exact h.reads (by unfold Short; simp) (fun y hy => by rw [List.mem_singleton.1 hy]; unfold I64; omega)
          refine hK.out _ _ (.inr (e2.cell tb)) (fun _ => ?_)
          clear hK K
          try simp only [List.getElem_toArray, List.getElem_cons_succ, List.getElem_cons_zero, Act.put, List.setIfInBounds_toArray, List.set_cons_zero, List.set_cons_succ]
          have hB2 := Nat.le_trans hB1 e2.size
          have b2 := hbd.trans (e2.below.mono hB1)
          have own2 := ownd.ext (w' := w1.alloc (.cells #[.int .i64 (-1)] 3)) (e := e2)
          generalize w1.alloc (.cells #[.int .i64 (-1)] 3) = w2 at *
          generalize w1.heap.size = g2 at *
          refine wpAnyE_ready (rs := [4]) (by kernel_rfl) (by simp) ?_
          refine AllReadyE.cons rfl (fun K hK => ?_) AllReadyE.nil
          go_simp
          go_at_call 23
          with_reducible refine (sRepeatN_any (w0 := w2) (w := w2) (n := n) i2 hn1.out.1 (by have := hn1.out; omega)).mono ?_
          rw [List.length_replicate]
          rintro e w3 ⟨d3, m3, rfl, hnew, e3⟩
          have own3 := own2.join hnew (e := e3) hB2
          have b3 : Below B W w3 := b2.trans (e3.below.mono hB2)
          go_wp2_with fail
          refine hK.out _ _ (.inr (e3.cell (e2.cell tb))) (fun _ => ?_)
          clear hK K
          try simp only [List.getElem_toArray, List.getElem_cons_succ, List.getElem_cons_zero, Act.put, List.setIfInBounds_toArray, List.set_cons_zero, List.set_cons_succ]
          have tb3 := e3.cell (e2.cell tb)
          have hB3 : B ≤ w3.heap.size := Nat.le_trans hBW b3.size
          clear tb own2 hnew ownd hbd i2
          refine wpAnyE_ready (rs := [5]) (by kernel_rfl) (by simp) ?_
          refine AllReadyE.cons rfl (fun K hK => ?_) AllReadyE.nil
          go_simp
          have o6 := own3.lit 24 1 1 #[.slice d3 n m3] hB3 (by unfold maxLen; omega) rfl
          have b6 : Below B W (w3.alloc (.cells #[.slice d3 n m3] 24)) := b3.alloc hB3 _
          have e6 : Ext w3 (w3.alloc (.cells #[.slice d3 n m3] 24)) := inferInstance
          have hn6 : (w3.alloc (.cells #[.slice d3 n m3] 24)).cell? ⟨w3.heap.size, 0, none⟩ = some (.slice d3 n m3) := by go_simp
          refine hK.out _ _ (.inr (e6.cell tb3)) (fun _ => ?_)
          clear hK K
          try simp only [List.getElem_toArray, List.getElem_cons_succ, List.getElem_cons_zero, Act.put, List.setIfInBounds_toArray, List.set_cons_zero, List.set_cons_succ]
          have tb6 := e6.cell tb3
          have o7 := rw_out (A := [boxRow 29 1 b [.slice d0 x m0]]) o6.tail
          rw [hvs.out] at o7
          clear o6 own3
          generalize w3.alloc (.cells #[.slice d3 n m3] 24) = w6 at *
          generalize w3.heap.size = g6 at *
          have hB6 : B ≤ w6.heap.size := Nat.le_trans hBW b6.size
          refine wpAnyE_ready (rs := [6]) (by kernel_rfl) (by simp) ?_
          refine AllReadyE.cons rfl (fun K hK => ?_) AllReadyE.nil
          refine stp_one rfl (.tmp 30) (.tmp 34) 27 rfl elemInts rfl o7 hB6 (us := [.slice d3 n m3]) rfl rfl ?_ (by intro u hu; simp at hu; subst hu; rfl) (by omega) (by omega) ?_
          · intro jj u hj
            match jj, hj with
            | 0, hj => simp at hj; subst hj; exact hn6
          intro v8 w8 ho8 hb8
          obtain ⟨d8, m8, hv8⟩ := ho8.form
          have hv8' : v8 = .slice d8 (x + 1) m8 := hv8
          subst hv8'
          clear hv8
          have b8 := b6.trans hb8
          have tb8 : w8.cell? ⟨b, 0, none⟩ = some (.slice d0 x m0) := ow_cell ho8 (.tail _ (.tail _ (.head _))) (j := 0) (by omega)
          have hff := ow_frozen ho8 (.tail _ (.tail _ (.head _))) 0
          have hbB : B ≤ b := ((ho8.1 _ (.tail _ (.tail _ (.head _)))).lt b rfl).1
          rw [← hvs.out] at ho8
          have ho9 := rw_in (A := [boxRow 29 1 b [.slice d0 vs.length m0]]) (R := []) ho8 (by rw [hvs.out]; simp [uniTab])
          rw [hvs.out] at ho9
          have ho10 := ow_set (A := []) ho9 0 (.slice d8 (x + 1) m8)
          have b10 := b8.setCell hbB (p := ⟨b, 0, none⟩) (.slice d8 (x + 1) m8)
          have hut := hid (show uniTab f n x ++ [List.replicate n (-1)] = uniTab f n (x + 1) by
            rw [uniTab_succ]
            unfold uniRow
            rw [hf.out, List.map_const', List.length_range])
          have hvs2 := hid (show (vs ++ [Value.slice d3 n m3]).length = x + 1 by rw [List.length_append, hvs.out]; rfl)
          refine hK.out _ _ (.inr tb8) (fun _ => ?_)
          clear hK K
          try simp only [List.getElem_toArray, List.getElem_cons_succ, List.getElem_cons_zero, Act.put, List.setIfInBounds_toArray, List.set_cons_zero, List.set_cons_succ]
          refine wpAnyE_take (i := 7) (v := .pointer (some ⟨b, 0, none⟩)) rfl (by kernel_rfl) (by kernel_rfl) (by kernel_rfl) (fun _ _ _ h => h) (Or.inl ⟨by rfl, by intro wx hx; go_simp⟩) (by assumption) ?_
          try simp only [List.getElem_toArray, List.getElem_cons_succ, List.getElem_cons_zero, Act.put, List.setIfInBounds_toArray, List.set_cons_zero, List.set_cons_succ]
          refine wpAnyE_ready (rs := [8]) (by kernel_rfl) (by simp) ?_
          refine AllReadyE.cons rfl (fun K hK => ?_) AllReadyE.nil
          go_simp
          refine hK.out _ _ (.inl rfl) (fun _ => ?_)
          clear hK K
          try simp only [List.getElem_toArray, List.getElem_cons_succ, List.getElem_cons_zero, Act.put, List.setIfInBounds_toArray, List.set_cons_zero, List.set_cons_succ]
          refine wpAnyE_done (by kernel_rfl) ?_ _
          clear ho8 ho9 o7 tb3 tb6 tb8
          rw [hut.out] at ho10
          generalize w8.setCell ⟨b, 0, none⟩ (.slice d8 (x + 1) m8) = w10 at *
          go_wp2_with fail
          go_roundw
          case rel => exact ⟨x + 1, by omega, by go_num, b10, d8, m8, _, hvs2, ho10⟩
          case measure => simp [intOf]; omega
        · obtain rfl : n = x := by omega
          have own1 : Own wo B (rowsOf 24 3 (.slice d0 n m0) vs (uniTab f n n) ++ [boxRow 29 1 b [.slice d0 n m0]]) := by
            refine hown.perm ?_
            rw [List.append_nil]
            exact List.perm_append_comm (l₁ := rowsOf 24 3 (.slice d0 n m0) vs (uniTab f n n)) (l₂ := [boxRow 29 1 b [.slice d0 n m0]])
          have hfacts := hid (show ∀ u N g, TbF N n g → Own u B (rowsOf 24 3 (.slice d0 n m0) vs N ++ [boxRow 29 1 b [.slice d0 n m0]]) → ∀ x, x < n → ∃ g gx mx, d0 = some ⟨g, 0, none⟩ ∧ u.cell? ⟨b, 0, none⟩ = some (.slice (some ⟨g, 0, none⟩) n m0) ∧ u.cell? ⟨g, x, none⟩ = some (.slice (some ⟨gx, 0, none⟩) n mx) ∧ vs[x]? = some (.slice (some ⟨gx, 0, none⟩) n mx) ∧ B ≤ gx ∧ (row N x).length = n ∧ N.length = n ∧ (∀ z, z < n → u.frozen? ⟨gx, z, none⟩ = false ∧ ∃ c, u.cell? ⟨gx, z, none⟩ = some (.int .i64 c)) from fun u N g hN h x hx => by
            have hl := hN.rows x hx
            obtain ⟨gx, mx, hu, hBg⟩ := rw_form h (by rw [hvs.out, hN.len]) (j := x) (by rw [hN.len]; exact hx) (by rw [hl]; omega)
            obtain ⟨g, rfl⟩ := rw_addr h hvs.out (by omega)
            rw [hl] at hu
            exact ⟨g, gx, mx, rfl, ow_cell h (List.mem_append_right _ (List.Mem.head _)) (j := 0) (by omega), (rw_cell h hvs.out hu).1, hu, hBg, hl, hN.len, fun z hz => by
              have h1 := rw_at h (by rw [hN.len]; exact hx) hu hl hz
              exact ⟨h1.2, _, h1.1⟩⟩)
          have htb0 := hid (tb_tab (f := f) (n := n))
          have hn0 : 0 < n := hn1.out.1
          obtain ⟨g, gx, mx, hd0, tb, tx, hux, hBx, hlx, hNn, hcx⟩ := hfacts.out _ _ _ htb0.out own1 0 hn0
          obtain ⟨f00, c00, hc00⟩ := hcx 0 hn0
          have own2 := rw_put own1 (by rw [hvs.out, hNn]) (by rw [hNn]; exact hn0) hux hlx 0 0
          have hb2 := hb0.setCell hBx (p := ⟨gx, 0, none⟩) (.int .i64 0)
          have hTb1 := hid (htb0.out.put hn0 hn0 0 (g' := edV (paL P) (leL L) 1 1 (-1)) (fun u v hu hv => by
            rw [edV_none (Nat.le_refl 1), hf.out]
            by_cases e : u = v
            · subst e
              rw [if_pos rfl]
              by_cases c : u = 0
              · rw [if_pos (show u < 1 by omega), if_pos (show u = 0 ∧ u = 0 from ⟨c, c⟩)]
              · rw [if_neg (show ¬ u < 1 by omega), if_neg (show ¬ (u = 0 ∧ u = 0) from fun h => c h.1)]
            · rw [if_neg e, if_neg (show ¬ (u = 0 ∧ v = 0) from fun h => e (h.1.trans h.2.symm))]))
          clear hcx own1 hown hb0
          subst hd0
          go_upto_region 10 with fail
          generalize wo.setCell ⟨gx, 0, none⟩ (.int .i64 0) = W2 at *
          clear tb tx f00 hc00 hux hlx hNn
          go_upto_region 11 with fail
          go_loopw [45] (fun i wr => ∃ k : Nat, k ≤ P.length ∧ i = .int .i64 k ∧ Below B W wr ∧ Hid (∀ i, i < k → edOk P L i) ∧ ∃ N, Hid (TbF N n (edV (paL P) (leL L) (k + 1) (k + 1) (-1))) ∧ Own wr B (rowsOf 24 3 (.slice (some ⟨g, 0, none⟩) n m0) vs N ++ [boxRow 29 1 b [.slice (some ⟨g, 0, none⟩) n m0]])) (fun i _ => P.length - (intOf i).toNat)
          case atStart => exact ⟨0, by omega, rfl, hb2, hid (fun i hi => by omega), _, hTb1, own2⟩
          case round =>
            clear own2 hb2
            obtain ⟨k, hk, rfl, hb0, hok, N, hN, hown⟩ := hrel
            obtain ⟨wo, rfl⟩ : ∃ y : World, y = wr := ⟨_, rfl⟩
            have e0o := hE.out wo hb0
            have xo := (hb0.cell (p := ⟨r, 0, none⟩) hrB).trans x0
            have xfo := (hb0.frozen (p := ⟨r, 0, none⟩) hrB).trans xf
            have ewo := hEw.out wo hb0
            by_cases hltk : k < P.length
            · obtain ⟨gp, op, hdp, hcp⟩ := hP.at (w' := wo) (k := k) hltk
              cases hdp
              obtain ⟨gl, ol, hdl, hcl⟩ := hL.at (w' := wo) (k := k) (by have := hll.out; omega)
              cases hdl
              obtain ⟨_, _, hdl0, hcl0⟩ := hL.at (w' := w0) (k := k) (by have := hll.out; omega)
              cases hdl0
              replace hcl0 := hid hcl0
              have hkl : k < L.length := by have := hll.out; omega
              obtain ⟨p, hp⟩ : ∃ p, p = nth P k := ⟨_, rfl⟩
              obtain ⟨l, hl⟩ : ∃ l, l = nth L k := ⟨_, rfl⟩
              rw [← hp] at hcp
              rw [← hl] at hcl hcl0
              by_cases hpo : 0 ≤ p ∧ p ≤ (k : Int)
              · have hpt := hid (show inB p 0 (k : Int) = true from decide_eq_true hpo)
                by_cases hlo : 1 ≤ l ∧ l ≤ 99
                · have hlt2 := hid (show inB l 1 99 = true from decide_eq_true hlo)
                  have hok2 : Hid (∀ i, i < k + 1 → edOk P L i) := hid fun i hi => by
                    by_cases q : i < k
                    · exact hok.out i q
                    · rw [show i = k by omega]
                      unfold edOk
                      rw [← hp, ← hl]
                      omega
                  obtain ⟨q, hq⟩ : ∃ q : Nat, p = (q : Int) := ⟨p.toNat, by omega⟩
                  have hqx : q < k + 1 := by omega
                  have hxn : k + 1 < n := by have := hn.out; omega
                  have hqn : q < n := by omega
                  have hpq := hid (show paL P (k + 1) = q ∧ leL L (k + 1) = l by
                    unfold paL leL
                    rw [show k + 1 - 1 = k by omega, ← hp, ← hl]
                    exact ⟨by omega, rfl⟩)
                  subst hq
                  replace hp := hid hp
                  replace hl := hid hl
                  replace hpo := hid hpo
                  obtain ⟨g', gx, mx, hg', tb, tx, hux, hBx, hlx, hNn, hcx⟩ := hfacts.out _ N _ hN.out hown (k + 1) hxn
                  cases hg'
                  obtain ⟨g', gq, mq, hg', _, tq, huq, hBq, hlq, _, hcq⟩ := hfacts.out _ N _ hN.out hown q hqn
                  cases hg'
                  obtain ⟨fxx, cxx, hcxx⟩ := hcx (k + 1) hxn
                  go_wp2_with (first | (go_at_call 24; refine (within_any _ _ _ _).mono ?_; (first | rw [hpt.out] | rw [hlt2.out]); rintro e w3 ⟨rfl, rfl⟩))
                  have hT1 := hid (hN.out.put hxn hxn 0 (g' := fun u v => if u = k + 1 ∧ v = k + 1 then 0 else edV (paL P) (leL L) (k + 1) (k + 1) (-1) u v) (fun u v _ _ => rfl))
                  have hT2 := hid (hT1.out.put hxn hqn l (g' := fun u v => if u = k + 1 ∧ v = q then l else if u = k + 1 ∧ v = k + 1 then 0 else edV (paL P) (leL L) (k + 1) (k + 1) (-1) u v) (fun u v _ _ => rfl))
                  have hT3 := hid (hT2.out.put hqn hxn l (g' := edV (paL P) (leL L) (k + 1 + 1) (k + 1 + 1) (-1)) (fun u v _ _ => edV_more hpq.out.1 hpq.out.2 hqx u v))
                  have ed : Ext wo wo.drew := inferInstance
                  have ownd := hown.ext (w' := wo.drew) (e := ed)
                  have hbd : Below B W wo.drew := hb0.trans (ed.below.mono (Nat.le_trans hBW hb0.size))
                  have hSf := hid (show ∀ u N g0, TbF N n g0 → Own u B (rowsOf 24 3 (.slice (some ⟨g, 0, none⟩) n m0) vs N ++ [boxRow 29 1 b [.slice (some ⟨g, 0, none⟩) n m0]]) → Below B W u → u.cell? ⟨b, 0, none⟩ = some (.slice (some ⟨g, 0, none⟩) n m0) ∧ u.cell? ⟨g, k + 1, none⟩ = some (.slice (some ⟨gx, 0, none⟩) n mx) ∧ u.cell? ⟨g, q, none⟩ = some (.slice (some ⟨gq, 0, none⟩) n mq) ∧ u.cell? ⟨gl, ol + k, none⟩ = some (.int .i64 l) from fun u N g0 hN h hbu => by
                    obtain ⟨g', ga, ma, hg', tb, ta, hua, _⟩ := hfacts.out u N _ hN h (k + 1) hxn
                    cases hg'
                    obtain ⟨g', gc, mc, hg', _, tc, huc, _⟩ := hfacts.out u N _ hN h q hqn
                    cases hg'
                    rw [hux] at hua
                    rw [huq] at huc
                    cases hua
                    cases huc
                    exact ⟨tb, ta, tc, (hE.out u hbu).cell hcl0.out⟩)
                  have hS0 := hSf.out _ _ _ hN.out ownd hbd
                  have cxd := ed.cell hcxx
                  have fxd := ed.frozen hcxx fxx
                  clear tb tx tq hcx hcq hcxx fxx hcp hcl hown hb0 xo xfo
                  refine wp_region_held_drew (S := fun u => u.cell? ⟨b, 0, none⟩ = some (.slice (some ⟨g, 0, none⟩) n m0) ∧ u.cell? ⟨g, k + 1, none⟩ = some (.slice (some ⟨gx, 0, none⟩) n mx) ∧ u.cell? ⟨g, q, none⟩ = some (.slice (some ⟨gq, 0, none⟩) n mq) ∧ u.cell? ⟨gl, ol + k, none⟩ = some (.int .i64 l)) (by kernel_rfl) hS0 (fun hHeld0 => ?_)
                  clear hHeld0
                  generalize wo.drew = wd at *
                  refine wpAnyH_take (i := 0) (v := .pointer (some ⟨b, 0, none⟩)) rfl (by kernel_rfl) (by kernel_rfl) (by kernel_rfl) (fun _ _ _ h => h) (Or.inl ⟨by rfl, by intro wx hx; go_simp⟩) (by assumption) ?_
                  try simp only [List.getElem_toArray, List.getElem_cons_zero, Act.put, List.setIfInBounds_toArray, List.set_cons_zero, List.set_cons_succ]
                  refine wpAnyH_take (i := 1) (v := .slice (some ⟨g, 0, none⟩) n m0) rfl (by kernel_rfl) (by kernel_rfl) (by kernel_rfl) (fun _ _ _ h => h) (Or.inl ⟨by rfl, by intro wx hx; obtain ⟨_, _, _, _⟩ := hx; go_simp⟩) (by assumption) ?_
                  try simp only [List.getElem_toArray, List.getElem_cons_succ, List.getElem_cons_zero, Act.put, List.setIfInBounds_toArray, List.set_cons_zero, List.set_cons_succ]
                  refine wpAnyH_take (i := 2) (v := .int .i64 ((k : Int) + 1)) rfl (by kernel_rfl) (by kernel_rfl) (by kernel_rfl) (fun _ _ _ h => h) (Or.inl ⟨by rfl, by intro wx hx; go_simp⟩) (by assumption) ?_
                  try simp only [List.getElem_toArray, List.getElem_cons_succ, List.getElem_cons_zero, Act.put, List.setIfInBounds_toArray, List.set_cons_zero, List.set_cons_succ]
                  refine wpAnyH_take (i := 3) (v := .pointer (some ⟨g, k + 1, none⟩)) rfl (by kernel_rfl) (by kernel_rfl) (by kernel_rfl) (fun _ _ _ h => h) (Or.inl ⟨by rfl, by intro wx hx; go_simp; intro h; exfalso; omega⟩) (by assumption) ?_
                  try simp only [List.getElem_toArray, List.getElem_cons_succ, List.getElem_cons_zero, Act.put, List.setIfInBounds_toArray, List.set_cons_zero, List.set_cons_succ]
                  refine wpAnyH_take (i := 4) (v := .slice (some ⟨gx, 0, none⟩) n mx) rfl (by kernel_rfl) (by kernel_rfl) (by kernel_rfl) (fun _ _ _ h => h) (Or.inl ⟨by rfl, by intro wx hx; obtain ⟨_, _, _, _⟩ := hx; go_simp⟩) (by assumption) ?_
                  try simp only [List.getElem_toArray, List.getElem_cons_succ, List.getElem_cons_zero, Act.put, List.setIfInBounds_toArray, List.set_cons_zero, List.set_cons_succ]
                  refine wpAnyH_take (i := 5) (v := .int .i64 ((k : Int) + 1)) rfl (by kernel_rfl) (by kernel_rfl) (by kernel_rfl) (fun _ _ _ h => h) (Or.inl ⟨by rfl, by intro wx hx; go_simp⟩) (by assumption) ?_
                  try simp only [List.getElem_toArray, List.getElem_cons_succ, List.getElem_cons_zero, Act.put, List.setIfInBounds_toArray, List.set_cons_zero, List.set_cons_succ]
                  refine wpAnyH_take (i := 6) (v := .pointer (some ⟨b, 0, none⟩)) rfl (by kernel_rfl) (by kernel_rfl) (by kernel_rfl) (fun _ _ _ h => h) (Or.inl ⟨by rfl, by intro wx hx; go_simp⟩) (by assumption) ?_
                  try simp only [List.getElem_toArray, List.getElem_cons_succ, List.getElem_cons_zero, Act.put, List.setIfInBounds_toArray, List.set_cons_zero, List.set_cons_succ]
                  refine wpAnyH_take (i := 7) (v := .slice (some ⟨g, 0, none⟩) n m0) rfl (by kernel_rfl) (by kernel_rfl) (by kernel_rfl) (fun _ _ _ h => h) (Or.inl ⟨by rfl, by intro wx hx; obtain ⟨_, _, _, _⟩ := hx; go_simp⟩) (by assumption) ?_
                  try simp only [List.getElem_toArray, List.getElem_cons_succ, List.getElem_cons_zero, Act.put, List.setIfInBounds_toArray, List.set_cons_zero, List.set_cons_succ]
                  refine wpAnyH_take (i := 8) (v := .int .i64 ((k : Int) + 1)) rfl (by kernel_rfl) (by kernel_rfl) (by kernel_rfl) (fun _ _ _ h => h) (Or.inl ⟨by rfl, by intro wx hx; go_simp⟩) (by assumption) ?_
                  try simp only [List.getElem_toArray, List.getElem_cons_succ, List.getElem_cons_zero, Act.put, List.setIfInBounds_toArray, List.set_cons_zero, List.set_cons_succ]
                  refine wpAnyH_take (i := 9) (v := .pointer (some ⟨g, k + 1, none⟩)) rfl (by kernel_rfl) (by kernel_rfl) (by kernel_rfl) (fun _ _ _ h => h) (Or.inl ⟨by rfl, by intro wx hx; go_simp; intro h; exfalso; omega⟩) (by assumption) ?_
                  try simp only [List.getElem_toArray, List.getElem_cons_succ, List.getElem_cons_zero, Act.put, List.setIfInBounds_toArray, List.set_cons_zero, List.set_cons_succ]
                  refine wpAnyH_take (i := 10) (v := .slice (some ⟨gx, 0, none⟩) n mx) rfl (by kernel_rfl) (by kernel_rfl) (by kernel_rfl) (fun _ _ _ h => h) (Or.inl ⟨by rfl, by intro wx hx; obtain ⟨_, _, _, _⟩ := hx; go_simp⟩) (by assumption) ?_
                  try simp only [List.getElem_toArray, List.getElem_cons_succ, List.getElem_cons_zero, Act.put, List.setIfInBounds_toArray, List.set_cons_zero, List.set_cons_succ]
                  refine wpAnyH_take (i := 11) (v := .int .i64 q) rfl (by kernel_rfl) (by kernel_rfl) (by kernel_rfl) (fun _ _ _ h => h) (Or.inl ⟨by rfl, by intro wx hx; go_simp⟩) (by assumption) ?_
                  try simp only [List.getElem_toArray, List.getElem_cons_succ, List.getElem_cons_zero, Act.put, List.setIfInBounds_toArray, List.set_cons_zero, List.set_cons_succ]
                  refine wpAnyH_take (i := 12) (v := .pointer (some ⟨b, 0, none⟩)) rfl (by kernel_rfl) (by kernel_rfl) (by kernel_rfl) (fun _ _ _ h => h) (Or.inl ⟨by rfl, by intro wx hx; go_simp⟩) (by assumption) ?_
                  try simp only [List.getElem_toArray, List.getElem_cons_succ, List.getElem_cons_zero, Act.put, List.setIfInBounds_toArray, List.set_cons_zero, List.set_cons_succ]
                  refine wpAnyH_take (i := 13) (v := .slice (some ⟨g, 0, none⟩) n m0) rfl (by kernel_rfl) (by kernel_rfl) (by kernel_rfl) (fun _ _ _ h => h) (Or.inl ⟨by rfl, by intro wx hx; obtain ⟨_, _, _, _⟩ := hx; go_simp⟩) (by assumption) ?_
                  try simp only [List.getElem_toArray, List.getElem_cons_succ, List.getElem_cons_zero, Act.put, List.setIfInBounds_toArray, List.set_cons_zero, List.set_cons_succ]
                  refine wpAnyH_take (i := 14) (v := .int .i64 q) rfl (by kernel_rfl) (by kernel_rfl) (by kernel_rfl) (fun _ _ _ h => h) (Or.inl ⟨by rfl, by intro wx hx; go_simp⟩) (by assumption) ?_
                  try simp only [List.getElem_toArray, List.getElem_cons_succ, List.getElem_cons_zero, Act.put, List.setIfInBounds_toArray, List.set_cons_zero, List.set_cons_succ]
                  refine wpAnyH_take (i := 15) (v := .pointer (some ⟨g, q, none⟩)) rfl (by kernel_rfl) (by kernel_rfl) (by kernel_rfl) (fun _ _ _ h => h) (Or.inl ⟨by rfl, by intro wx hx; go_simp⟩) (by assumption) ?_
                  try simp only [List.getElem_toArray, List.getElem_cons_succ, List.getElem_cons_zero, Act.put, List.setIfInBounds_toArray, List.set_cons_zero, List.set_cons_succ]
                  refine wpAnyH_take (i := 16) (v := .slice (some ⟨gq, 0, none⟩) n mq) rfl (by kernel_rfl) (by kernel_rfl) (by kernel_rfl) (fun _ _ _ h => h) (Or.inl ⟨by rfl, by intro wx hx; obtain ⟨_, _, _, _⟩ := hx; go_simp⟩) (by assumption) ?_
                  try simp only [List.getElem_toArray, List.getElem_cons_succ, List.getElem_cons_zero, Act.put, List.setIfInBounds_toArray, List.set_cons_zero, List.set_cons_succ]
                  refine wpAnyH_take (i := 17) (v := .int .i64 ((k : Int) + 1)) rfl (by kernel_rfl) (by kernel_rfl) (by kernel_rfl) (fun _ _ _ h => h) (Or.inl ⟨by rfl, by intro wx hx; go_simp⟩) (by assumption) ?_
                  try simp only [List.getElem_toArray, List.getElem_cons_succ, List.getElem_cons_zero, Act.put, List.setIfInBounds_toArray, List.set_cons_zero, List.set_cons_succ]
                  refine wpAnyH_take (i := 18) (v := .slice (some ⟨gl, ol, none⟩) P.length ml) rfl (by kernel_rfl) (by kernel_rfl) (by kernel_rfl) (fun _ _ _ h => h) (Or.inl ⟨by rfl, by intro wx hx; go_simp⟩) (by assumption) ?_
                  try simp only [List.getElem_toArray, List.getElem_cons_succ, List.getElem_cons_zero, Act.put, List.setIfInBounds_toArray, List.set_cons_zero, List.set_cons_succ]
                  refine wpAnyH_take (i := 19) (v := .int .i64 k) rfl (by kernel_rfl) (by kernel_rfl) (by kernel_rfl) (fun _ _ _ h => h) (Or.inl ⟨by rfl, by intro wx hx; go_simp⟩) (by assumption) ?_
                  try simp only [List.getElem_toArray, List.getElem_cons_succ, List.getElem_cons_zero, Act.put, List.setIfInBounds_toArray, List.set_cons_zero, List.set_cons_succ]
                  refine wpAnyH_take (i := 20) (v := .pointer (some ⟨gl, ol + k, none⟩)) rfl (by kernel_rfl) (by kernel_rfl) (by kernel_rfl) (fun _ _ _ h => h) (Or.inl ⟨by rfl, by intro wx hx; go_simp⟩) (by assumption) ?_
                  try simp only [List.getElem_toArray, List.getElem_cons_succ, List.getElem_cons_zero, Act.put, List.setIfInBounds_toArray, List.set_cons_zero, List.set_cons_succ]
                  refine wpAnyH_take (i := 21) (v := .int .i64 l) rfl (by kernel_rfl) (by kernel_rfl) (by kernel_rfl) (fun _ _ _ h => h) (Or.inl ⟨by rfl, by intro wx hx; obtain ⟨_, _, _, _⟩ := hx; go_simp⟩) (by assumption) ?_
                  try simp only [List.getElem_toArray, List.getElem_cons_succ, List.getElem_cons_zero, Act.put, List.setIfInBounds_toArray, List.set_cons_zero, List.set_cons_succ]
                  refine wpAnyH_take (i := 22) (v := .slice (some ⟨gl, ol, none⟩) P.length ml) rfl (by kernel_rfl) (by kernel_rfl) (by kernel_rfl) (fun _ _ _ h => h) (Or.inl ⟨by rfl, by intro wx hx; go_simp⟩) (by assumption) ?_
                  try simp only [List.getElem_toArray, List.getElem_cons_succ, List.getElem_cons_zero, Act.put, List.setIfInBounds_toArray, List.set_cons_zero, List.set_cons_succ]
                  refine wpAnyH_take (i := 23) (v := .int .i64 k) rfl (by kernel_rfl) (by kernel_rfl) (by kernel_rfl) (fun _ _ _ h => h) (Or.inl ⟨by rfl, by intro wx hx; go_simp⟩) (by assumption) ?_
                  try simp only [List.getElem_toArray, List.getElem_cons_succ, List.getElem_cons_zero, Act.put, List.setIfInBounds_toArray, List.set_cons_zero, List.set_cons_succ]
                  refine wpAnyH_take (i := 24) (v := .pointer (some ⟨gl, ol + k, none⟩)) rfl (by kernel_rfl) (by kernel_rfl) (by kernel_rfl) (fun _ _ _ h => h) (Or.inl ⟨by rfl, by intro wx hx; go_simp⟩) (by assumption) ?_
                  try simp only [List.getElem_toArray, List.getElem_cons_succ, List.getElem_cons_zero, Act.put, List.setIfInBounds_toArray, List.set_cons_zero, List.set_cons_succ]
                  refine wpAnyH_take (i := 25) (v := .int .i64 l) rfl (by kernel_rfl) (by kernel_rfl) (by kernel_rfl) (fun _ _ _ h => h) (Or.inl ⟨by rfl, by intro wx hx; obtain ⟨_, _, _, _⟩ := hx; go_simp⟩) (by assumption) ?_
                  try simp only [List.getElem_toArray, List.getElem_cons_succ, List.getElem_cons_zero, Act.put, List.setIfInBounds_toArray, List.set_cons_zero, List.set_cons_succ]
                  refine wpAnyH_take (i := 26) (v := .pointer (some ⟨gx, k + 1, none⟩)) rfl (by kernel_rfl) (by kernel_rfl) (by kernel_rfl) (fun _ _ _ h => h) (Or.inl ⟨by rfl, by intro wx hx; go_simp; intro h; exfalso; omega⟩) (by assumption) ?_
                  try simp only [List.getElem_toArray, List.getElem_cons_succ, List.getElem_cons_zero, Act.put, List.setIfInBounds_toArray, List.set_cons_zero, List.set_cons_succ]
                  refine wpAnyH_ready (rs := [27]) (by kernel_rfl) (by simp) ?_
                  refine AllReadyH.cons rfl (fun K hK => ?_) AllReadyH.nil
                  go_simp
                  have own2 := rw_put ownd (by rw [hvs.out, hNn]) (by rw [hNn]; exact hxn) hux hlx (k + 1) 0
                  have hb2 := hbd.setCell hBx (p := ⟨gx, k + 1, none⟩) (.int .i64 0)
                  have hS1 := hSf.out _ _ _ hT1.out own2 hb2
                  refine hK.out _ _ hS1 (fun _ => ?_)
                  clear hK K
                  try simp only [List.getElem_toArray, List.getElem_cons_succ, List.getElem_cons_zero, Act.put, List.setIfInBounds_toArray, List.set_cons_zero, List.set_cons_succ]
                  clear ownd hbd hS0 hS1 cxd fxd
                  generalize wd.setCell ⟨gx, k + 1, none⟩ (.int .i64 0) = w2 at *
                  refine wpAnyH_take (i := 28) (v := .pointer (some ⟨gx, q, none⟩)) rfl (by kernel_rfl) (by kernel_rfl) (by kernel_rfl) (fun _ _ _ h => h) (Or.inl ⟨by rfl, by intro wx hx; go_simp⟩) (by assumption) ?_
                  try simp only [List.getElem_toArray, List.getElem_cons_succ, List.getElem_cons_zero, Act.put, List.setIfInBounds_toArray, List.set_cons_zero, List.set_cons_succ]
                  obtain ⟨g', ga, ma, hg', _, ta, hua, _, hla, hla2, hca⟩ := hfacts.out w2 _ _ hT1.out own2 (k + 1) hxn
                  rw [hux] at hua
                  cases hua
                  cases hg'
                  obtain ⟨fxq, cxq, hcxq⟩ := hca q hqn
                  refine wpAnyH_ready (rs := [29]) (by kernel_rfl) (by simp) ?_
                  refine AllReadyH.cons rfl (fun K hK => ?_) AllReadyH.nil
                  go_simp
                  have own3 := rw_put own2 (by rw [hvs.out, hla2]) (by rw [hla2]; exact hxn) hux hla q l
                  have hb3 := hb2.setCell hBx (p := ⟨gx, q, none⟩) (.int .i64 l)
                  have hS2 := hSf.out _ _ _ hT2.out own3 hb3
                  refine hK.out _ _ hS2 (fun _ => ?_)
                  clear hK K
                  try simp only [List.getElem_toArray, List.getElem_cons_succ, List.getElem_cons_zero, Act.put, List.setIfInBounds_toArray, List.set_cons_zero, List.set_cons_succ]
                  clear own2 hb2 hS2 ta hca fxq hcxq
                  generalize w2.setCell ⟨gx, q, none⟩ (.int .i64 l) = w3 at *
                  refine wpAnyH_take (i := 30) (v := .pointer (some ⟨gq, k + 1, none⟩)) rfl (by kernel_rfl) (by kernel_rfl) (by kernel_rfl) (fun _ _ _ h => h) (Or.inl ⟨by rfl, by intro wx hx; go_simp; intro h; exfalso; omega⟩) (by assumption) ?_
                  try simp only [List.getElem_toArray, List.getElem_cons_succ, List.getElem_cons_zero, Act.put, List.setIfInBounds_toArray, List.set_cons_zero, List.set_cons_succ]
                  obtain ⟨g', gc, mc, hg', _, tc, huc, _, hlc, hlc2, hcc⟩ := hfacts.out w3 _ _ hT2.out own3 q hqn
                  rw [huq] at huc
                  cases huc
                  cases hg'
                  obtain ⟨fqx, cqx, hcqx⟩ := hcc (k + 1) hxn
                  refine wpAnyH_ready (rs := [31]) (by kernel_rfl) (by simp) ?_
                  refine AllReadyH.cons rfl (fun K hK => ?_) AllReadyH.nil
                  go_simp
                  have own4 := rw_put own3 (by rw [hvs.out, hlc2]) (by rw [hlc2]; exact hqn) huq hlc (k + 1) l
                  have hb4 := hb3.setCell hBq (p := ⟨gq, k + 1, none⟩) (.int .i64 l)
                  have hS3 := hSf.out _ _ _ hT3.out own4 hb4
                  refine hK.out _ _ hS3 (fun _ => ?_)
                  clear hK K
                  try simp only [List.getElem_toArray, List.getElem_cons_succ, List.getElem_cons_zero, Act.put, List.setIfInBounds_toArray, List.set_cons_zero, List.set_cons_succ]
                  refine wpAnyH_done (by kernel_rfl) ?_ _
                  clear own3 hb3 hS3 tc hcc fqx hcqx
                  generalize w3.setCell ⟨gq, k + 1, none⟩ (.int .i64 l) = w4 at *
                  go_wp2_with fail
                  go_roundw
                  case rel => exact ⟨k + 1, by omega, by go_num, hb4, hok2, _, hT3, own4⟩
                  case measure => simp [intOf]; omega
                · have hlf := hid (show inB l 1 99 = false from decide_eq_false hlo)
                  have hno := hid (tm_no3 (P := P) (L := L) (i := k) hltk (by
                    unfold edOk
                    rw [← hp, ← hl]
                    omega))
                  replace hp := hid hp
                  replace hl := hid hl
                  replace hpo := hid hpo
                  replace hlo := hid hlo
                  go_wp2_with (first | (go_at_call 24; refine (within_any _ _ _ _).mono ?_; (first | rw [hpt.out] | rw [hlf.out]); rintro e w3 ⟨rfl, rfl⟩))
                  have hset : (wo.setCell ⟨r, 0, none⟩ (.slice none 0 0)).cell? ⟨r, 0, none⟩ = some (.slice none 0 0) := by go_simp
                  have eF : Ext w (wo.setCell ⟨r, 0, none⟩ (.slice none 0 0)) := ⟨ewo.below.setCell hrw.out _⟩
                  refine bodyPost_ret (v := .tuple #[.agg #[.slice none 0 0], .bool false]) (by simp [results, Try.results6, go_sem, hset]) rfl ?_
                  exact ⟨_, by rw [hno.out], by rw [tm_off hno.out]; exact IsMet.none _, eF⟩
              · have hpf := hid (show inB p 0 (k : Int) = false from decide_eq_false hpo)
                have hno := hid (tm_no3 (P := P) (L := L) (i := k) hltk (by
                  unfold edOk
                  rw [← hp, ← hl]
                  omega))
                replace hp := hid hp
                replace hl := hid hl
                replace hpo := hid hpo
                go_wp2_with (first | (go_at_call 24; refine (within_any _ _ _ _).mono ?_; rw [hpf.out]; rintro e w3 ⟨rfl, rfl⟩))
                have hset : (wo.setCell ⟨r, 0, none⟩ (.slice none 0 0)).cell? ⟨r, 0, none⟩ = some (.slice none 0 0) := by go_simp
                have eF : Ext w (wo.setCell ⟨r, 0, none⟩ (.slice none 0 0)) := ⟨ewo.below.setCell hrw.out _⟩
                refine bodyPost_ret (v := .tuple #[.agg #[.slice none 0 0], .bool false]) (by simp [results, Try.results6, go_sem, hset]) rfl ?_
                exact ⟨_, by rw [hno.out], by rw [tm_off hno.out]; exact IsMet.none _, eF⟩
            · obtain rfl : k = P.length := by omega
              have hlen : ∀ i, i < P.length → edOk P L i := hok.out
              have hy3 := hid (tm_yes h5 hll.out hlen)
              have htr := tm_tr (P := P) (L := L) hll.out hlen
              rw [← hn.out] at htr
              have hN' : TbF N n (edV (paL P) (leL L) n n (-1)) := by have := hN.out; rw [← hn.out] at this; exact this
              have htm := hid (show tmT P L = trT (paL P) (leL L) n by unfold tmT; rw [← hn.out])
              have hMk : MOk N := tb_mok hN' (by have := hn1.out; omega) (edV_i64 htr.1 htr.2 (by unfold I64; omega))
              have hNl := hN'.len
              have hmN : IsMet wo (.agg #[.slice (some ⟨g, 0, none⟩) n m0]) N := met_own (m := m0) hown (by rw [hvs.out, hNl]) hMk
              have hCl := hid (@closed_any (.agg #[.slice (some ⟨g, 0, none⟩) n m0]) N n (paL P) (leL L) wo wo (Ext.refl _) hmN hN' htr.1 htr.2 hn1.out)
              have hTb := hid (fun (N' : List (List Int)) (h : TbF N' n (trD (paL P) (leL L) n)) => (show N' = tmT P L ∧ MOk N' from by
                refine ⟨by rw [htm.out]; exact h.trT, tb_mok h (by have := hn1.out; omega) fun u v hu hv => ?_⟩
                have h1 := trD_le_far htr.1 htr.2 u v hu hv
                have h2 := (trD_pos htr.1 u v hu hv).1
                have := hn1.out
                unfold I64; omega))
              have tb : wo.cell? ⟨b, 0, none⟩ = some (.slice (some ⟨g, 0, none⟩) n m0) := ow_cell hown (List.mem_append_right _ (List.Mem.head _)) (j := 0) (by omega)
              clear htr hMk hmN hlen hok hown hN hN' hNl
              cases hmb : metB (tmT P L) with
              | false =>
                replace hmb := hid hmb
                have hno := hid (hy3.out.trans hmb.out)
                go_wp2_with fail
                with_reducible refine hCl.out.mono ?_
                rintro e w4 ⟨d1, m1, vs1, N1, rfl, hv1, hT1, own4, e4⟩
                obtain ⟨hN1, hk1⟩ := hTb.out N1 hT1
                subst hN1
                have hm4 : IsMet w4 (.agg #[.slice d1 (tmT P L).length m1]) (tmT P L) := met_own (R := []) (by simpa using own4) hv1 hk1
                obtain ⟨v4, hv4, hR4⟩ := hm4
                cases hv4
                have hGv := hid (@metricOf_any (.slice d1 (tmT P L).length m1) (tmT P L) w4 w4 (Ext.refl _) hR4)
                obtain ⟨l1, hl1⟩ : ∃ l, l = (tmT P L).length := ⟨_, rfl⟩
                rw [← hl1] at hGv own4 ⊢
                replace hl1 := hid hl1
                clear hT1 hR4
                go_wp2_with fail
                with_reducible refine hGv.out.mono ?_
                rw [hmb.out, if_neg (by simp)]
                rintro e w5 ⟨rfl, e5⟩
                have e45 : Ext wo w5 := Ext.trans e4 e5
                have e5w : Ext w w5 := Ext.trans ewo e45
                have x5 := e45.cell xo
                have f5 := e45.frozen xo xfo
                have hset : (w5.setCell ⟨r, 0, none⟩ (.slice none 0 0)).cell? ⟨r, 0, none⟩ = some (.slice none 0 0) := by go_simp
                have eF : Ext w (w5.setCell ⟨r, 0, none⟩ (.slice none 0 0)) := ⟨e5w.below.setCell hrw.out _⟩
                go_wp2_with fail
                refine bodyPost_ret (v := .tuple #[.agg #[.slice none 0 0], .bool false]) (by simp [results, Try.results6, go_sem, hset]) rfl ?_
                exact ⟨_, by rw [hno.out], by rw [tm_off hno.out]; exact IsMet.none _, eF⟩
              | true =>
                replace hmb := hid hmb
                have hno := hid (hy3.out.trans hmb.out)
                go_wp2_with fail
                with_reducible refine hCl.out.mono ?_
                rintro e w4 ⟨d1, m1, vs1, N1, rfl, hv1, hT1, own4, e4⟩
                obtain ⟨hN1, hk1⟩ := hTb.out N1 hT1
                subst hN1
                have hm4 : IsMet w4 (.agg #[.slice d1 (tmT P L).length m1]) (tmT P L) := met_own (R := []) (by simpa using own4) hv1 hk1
                obtain ⟨v4, hv4, hR4⟩ := hm4
                cases hv4
                have hGv := hid (@metricOf_any (.slice d1 (tmT P L).length m1) (tmT P L) w4 w4 (Ext.refl _) hR4)
                obtain ⟨l1, hl1⟩ : ∃ l, l = (tmT P L).length := ⟨_, rfl⟩
                rw [← hl1] at hGv own4 ⊢
                replace hl1 := hid hl1
                clear hT1 hR4
                go_wp2_with fail
                with_reducible refine hGv.out.mono ?_
                rw [hmb.out, if_pos rfl]
                rintro e w5 ⟨rfl, e5⟩
                have e45 : Ext wo w5 := Ext.trans e4 e5
                have e5w : Ext w w5 := Ext.trans ewo e45
                have x5 := e45.cell xo
                have f5 := e45.frozen xo xfo
                have hset : (w5.setCell ⟨r, 0, none⟩ (.slice d1 l1 m1)).cell? ⟨r, 0, none⟩ = some (.slice d1 l1 m1) := by go_simp
                have eF : Ext w (w5.setCell ⟨r, 0, none⟩ (.slice d1 l1 m1)) := ⟨e5w.below.setCell hrw.out _⟩
                have own6 := (own4.ext (w' := w5) (e := e5)).setBelow (p := ⟨r, 0, none⟩) (Nat.lt_of_lt_of_le hrB (Nat.le_trans hBW hb0.size)) (.slice d1 l1 m1)
                have hm6 : IsMet (w5.setCell ⟨r, 0, none⟩ (.slice d1 l1 m1)) (.agg #[.slice d1 l1 m1]) (tmT P L) := met_own (R := []) (by simpa using own6) hv1 hk1
                go_wp2_with fail
                refine bodyPost_ret (v := .tuple #[.agg #[.slice d1 l1 m1], .bool true]) (by simp [results, Try.results6, go_sem, hset]) rfl ?_
                exact ⟨_, by rw [hno.out], by rw [tm_on hno.out]; exact hm6, eF⟩
    · have hno := hid (tm_no2 hll)
      have hne : ¬ (L.length : Int) = (P.length : Int) := by omega
      have hneb : ((L.length : Int) == (P.length : Int)) = false := beq_eq_false_iff_ne.2 hne
      obtain ⟨wo, rfl⟩ : ∃ y : World, y = wa := ⟨_, rfl⟩
      have ewo := ez
      have hset : (wo.setCell ⟨r, 0, none⟩ (.slice none 0 0)).cell? ⟨r, 0, none⟩ = some (.slice none 0 0) := by go_simp
      have eF : Ext w (wo.setCell ⟨r, 0, none⟩ (.slice none 0 0)) := ⟨ewo.below.setCell hrw.out _⟩
      go_wp2_with fail
      refine bodyPost_ret (v := .tuple #[.agg #[.slice none 0 0], .bool false]) (by simp [results, Try.results6, go_sem, hset]) rfl ?_
      exact ⟨_, by rw [hno.out], by rw [tm_off hno.out]; exact IsMet.none _, eF⟩
  · have hno := hid (tm_no1 (L := L) h5)
    have h6 : (6 : Int) ≤ (P.length : Int) := by omega
    obtain ⟨wo, rfl⟩ : ∃ y : World, y = wa := ⟨_, rfl⟩
    have ewo := ez
    have hset : (wo.setCell ⟨r, 0, none⟩ (.slice none 0 0)).cell? ⟨r, 0, none⟩ = some (.slice none 0 0) := by go_simp
    have eF : Ext w (wo.setCell ⟨r, 0, none⟩ (.slice none 0 0)) := ⟨ewo.below.setCell hrw.out _⟩
    go_wp2_with fail
    refine bodyPost_ret (v := .tuple #[.agg #[.slice none 0 0], .bool false]) (by simp [results, Try.results6, go_sem, hset]) rfl ?_
    exact ⟨_, by rw [hno.out], by rw [tm_off hno.out]; exact IsMet.none _, eF⟩
end Go.Proofs.Ytnlbjbnjjkilhaa
