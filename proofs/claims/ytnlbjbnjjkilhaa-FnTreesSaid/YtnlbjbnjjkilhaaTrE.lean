/- The reference's metric of a tree walked: TreeMetric. -/
import Derived.Test.YtnlbjbnjjkilhaaTrD
namespace Go.Proofs.Ytnlbjbnjjkilhaa
open Go.RowKit

theorem two_pow_le_nn (y : Nat) : 0 ≤ (99 : Int) * 2 ^ y := Int.mul_nonneg (by decide) (Int.pow_nonneg (by decide))
set_option maxHeartbeats 3200000 in
set_option maxRecDepth 100000 in
theorem specTM_any {vp vl : Value} {P L : List Int} {w0 w : World} [Ext w0 w] (hP : IsInts w0 vp P) (hL : IsInts w0 vl L) :
    Calls Try.prog 7 #[vp, vl] w (TMPost P L w) := by
  obtain ⟨dp, mp, rfl, lp⟩ := hP.form
  obtain ⟨dl, ml, rfl, ll⟩ := hL.form
  unfold TMPost
  go_enter Try.func7, Try.ntmps7
  go_upto_region 1 with fail
  have ez : Ext w (w.alloc (.cells #[.slice none 0 0] 29)) := inferInstance
  have z0 : (w.alloc (.cells #[.slice none 0 0] 29)).cell? ⟨w.heap.size, 0, none⟩ = some (.slice none 0 0) := by go_simp
  have zf : (w.alloc (.cells #[.slice none 0 0] 29)).frozen? ⟨w.heap.size, 0, none⟩ = false := by go_simp
  have zs : (w.alloc (.cells #[.slice none 0 0] 29)).heap.size = w.heap.size + 1 := by simp
  generalize w.alloc (.cells #[.slice none 0 0] 29) = wa at *
  obtain ⟨r, hr⟩ : ∃ r, r = w.heap.size := ⟨_, rfl⟩
  rw [← hr] at z0 zf ⊢
  have hrw := hid (show w.heap.size ≤ r by omega)
  replace hr := hid hr
  replace zs := hid zs
  have e0a : Ext w0 wa := Ext.trans ‹Ext w0 w› ez
  by_cases h5 : P.length ≤ 5
  · have h6 : ¬ (6 : Int) < (P.length : Int) + 1 := by omega
    by_cases hll : L.length = P.length
    · rw [hll]
      obtain ⟨n, hn⟩ : ∃ n, n = P.length + 1 := ⟨_, rfl⟩
      have hnI : (P.length : Int) + 1 = (n : Int) := by omega
      replace hll := hid hll
      replace hnI := hid hnI
      replace hn := hid hn
      go_upto_region 4 with fail
      rw [hnI.out]
      go_wp2_with (go_at_call 27; refine (l6Uniform_any (n := n) (d := -1) (by have := hn.out; omega) _).mono ?_; rintro e w1 ⟨d0, m0, vs, rfl, hvs, hown, e1⟩)
      rw [zs.out] at hown
      have hB1 : w.heap.size + 1 ≤ w1.heap.size := by have := e1.size; have := zs.out; omega
      have own0 : Own (w1.alloc (.cells #[.slice d0 n m0] 29)) (w.heap.size + 1) (rowsOf 24 3 (.slice d0 n m0) vs (uniTab (fun x y => if x = y then 0 else (-1 : Int)) n n) ++ [boxRow 29 1 w1.heap.size [.slice d0 n m0]]) := by
        have h2 := hown.lit 29 1 1 #[.slice d0 n m0] hB1 (by unfold maxLen; omega) rfl
        exact h2.perm (List.perm_append_comm (l₁ := rowsOf _ _ _ _ _) (l₂ := [_]))
      have eW : Ext w (w1.alloc (.cells #[.slice d0 n m0] 29)) := Ext.trans ez (Ext.trans e1 inferInstance)
      have e1W : Ext wa (w1.alloc (.cells #[.slice d0 n m0] 29)) := Ext.trans e1 inferInstance
      have x0 := e1W.cell z0
      have xf := e1W.frozen z0 zf
      have hBW : w.heap.size + 1 ≤ (w1.alloc (.cells #[.slice d0 n m0] 29)).heap.size := Nat.le_trans hB1 (Ext.size (a := w1) inferInstance)
      obtain ⟨b, hbb⟩ : ∃ b, b = w1.heap.size := ⟨_, rfl⟩
      rw [← hbb] at own0
      go_upto_region 5 with fail
      clear z0 zf hown e1W
      generalize w1.alloc (.cells #[.slice d0 n m0] 29) = W at *
      rw [← hbb]
      replace hbb := hid hbb
      replace hvs := hid hvs
      obtain ⟨B, hB⟩ : ∃ B, B = w.heap.size + 1 := ⟨_, rfl⟩
      rw [← hB] at own0 hBW
      have hrB : r < B := by have := hr.out; omega
      have hlw : w.heap.size ≤ B := by omega
      replace hB := hid hB
      have e0W : Ext w0 W := Ext.trans ‹Ext w0 w› eW
      have hE := hid (show ∀ u, Below B W u → Ext w0 u from fun u h => ⟨e0W.below.trans (h.mono (Nat.le_trans (‹Ext w0 w›).size hlw))⟩)
      have hEw := hid (show ∀ u, Below B W u → Ext w u from fun u h => ⟨eW.below.trans (h.mono hlw)⟩)
      have hn1 := hid (show 1 ≤ n ∧ n ≤ 6 by have := hn.out; omega)
      have htb0 := hid (show TbF (uniTab (fun x y => if x = y then 0 else (-1 : Int)) n n) n (edV (paL P) (leL L) n 1 (-1)) from ⟨by simp [uniTab], fun u hu => by simp [uniTab, row, uniRow, hu], fun u v hu hv => by
        rw [edV_none (Nat.le_refl 1), if_pos hu]
        simp [uniTab, row, uniRow, nth, hu, hv]⟩)
      have hfacts := hid (show ∀ u N g, TbF N n g → Own u B (rowsOf 24 3 (.slice d0 n m0) vs N ++ [boxRow 29 1 b [.slice d0 n m0]]) → ∀ x, x < n → ∃ g gx mx, d0 = some ⟨g, 0, none⟩ ∧ u.cell? ⟨b, 0, none⟩ = some (.slice (some ⟨g, 0, none⟩) n m0) ∧ u.cell? ⟨g, x, none⟩ = some (.slice (some ⟨gx, 0, none⟩) n mx) ∧ vs[x]? = some (.slice (some ⟨gx, 0, none⟩) n mx) ∧ B ≤ gx ∧ (row N x).length = n ∧ N.length = n ∧ (∀ z, z < n → u.frozen? ⟨gx, z, none⟩ = false ∧ ∃ c, u.cell? ⟨gx, z, none⟩ = some (.int .i64 c)) from fun u N g hN h x hx => by
        have hl := hN.rows x hx
        obtain ⟨gx, mx, hu, hBg⟩ := rw_form h (by rw [hvs.out, hN.len]) (j := x) (by rw [hN.len]; exact hx) (by rw [hl]; omega)
        obtain ⟨g, rfl⟩ := rw_addr h hvs.out (by omega)
        rw [hl] at hu
        exact ⟨g, gx, mx, rfl, ow_cell h (List.mem_append_right _ (List.Mem.head _)) (j := 0) (by omega), (rw_cell h hvs.out hu).1, hu, hBg, hl, hN.len, fun z hz => by
          have h1 := rw_at h (by rw [hN.len]; exact hx) hu hl hz
          exact ⟨h1.2, _, h1.1⟩⟩)
      go_loopw [8] (fun i wr => ∃ x : Nat, 1 ≤ x ∧ x ≤ n ∧ i = .int .i64 x ∧ Below B W wr ∧ Hid (∀ i, i + 1 < x → edOk P L i) ∧ ∃ N, Hid (TbF N n (edV (paL P) (leL L) n x (-1))) ∧ Own wr B (rowsOf 24 3 (.slice d0 n m0) vs N ++ [boxRow 29 1 b [.slice d0 n m0]])) (fun i _ => n - (intOf i).toNat)
      case atStart => exact ⟨1, Nat.le_refl 1, hn1.out.1, rfl, Below.refl _ _, hid (fun i hi => by omega), _, htb0, own0⟩
      case round =>
        obtain ⟨x, hx1, hx, rfl, hb0, hok, N, hN, hown⟩ := hrel
        obtain ⟨wo, rfl⟩ : ∃ y : World, y = wr := ⟨_, rfl⟩
        have e0o := hE.out wo hb0
        have xo := (hb0.cell (p := ⟨r, 0, none⟩) hrB).trans x0
        have xfo := (hb0.frozen (p := ⟨r, 0, none⟩) hrB).trans xf
        have ewo := hEw.out wo hb0
        by_cases hlt : x < n
        · have hnP := hn.out
          obtain ⟨gp, op, hdp, hcp⟩ := hP.at (w' := wo) (k := x - 1) (by omega)
          cases hdp
          obtain ⟨gl, ol, hdl, hcl⟩ := hL.at (w' := wo) (k := x - 1) (by have := hll.out; omega)
          cases hdl
          obtain ⟨_, _, hdl0, hcl0⟩ := hL.at (w' := w0) (k := x - 1) (by have := hll.out; omega)
          cases hdl0
          replace hcl0 := hid hcl0
          have hxm : wrap64 ((x : Int) - 1) = ((x - 1 : Nat) : Int) := by unfold wrap64; omega
          have hxp : x - 1 < P.length := by omega
          have hxw : IntKind.i64.wrap ((x : Int) - 1) = (x : Int) - 1 := by
            exact IntWalk.i64_in _ (by omega)
          have hxl : x - 1 < L.length := by have := hll.out; omega
          have hxI : ((x - 1 : Nat) : Int) < (P.length : Int) := by omega
          have hpv : nth P (x - 1) = nth P (x - 1) := rfl
          obtain ⟨p, hp⟩ : ∃ p, p = nth P (x - 1) := ⟨_, rfl⟩
          obtain ⟨l, hl⟩ : ∃ l, l = nth L (x - 1) := ⟨_, rfl⟩
          rw [← hp] at hcp
          rw [← hl] at hcl hcl0
          clear hpv
          by_cases hpo : 0 ≤ p ∧ p ≤ (x : Int) - 1
          · have hpt := hid (show inB p 0 ((x : Int) - 1) = true from decide_eq_true hpo)
            by_cases hlo : 1 ≤ l ∧ l ≤ 99
            · have hlt2 := hid (show inB l 1 99 = true from decide_eq_true hlo)
              have hok2 : Hid (∀ i, i + 1 < x + 1 → edOk P L i) := hid fun i hi => by
                by_cases q : i + 1 < x
                · exact hok.out i q
                · rw [show i = x - 1 by omega]
                  unfold edOk
                  rw [← hp, ← hl]
                  omega
              obtain ⟨q, hq⟩ : ∃ q : Nat, p = (q : Int) := ⟨p.toNat, by omega⟩
              have hqx : q < x := by omega
              have hqn : q < n := by omega
              have hpq := hid (show paL P x = q ∧ leL L x = l by
                unfold paL leL
                rw [← hp, ← hl]
                exact ⟨by omega, rfl⟩)
              subst hq
              replace hp := hid hp
              replace hl := hid hl
              replace hnP := hid hnP
              obtain ⟨g, gx, mx, rfl, tb, tx, hux, hBx, hlx, hNn, hcx⟩ := hfacts.out _ N _ hN.out hown x hlt
              obtain ⟨g', gq, mq, hg', _, tq, huq, hBq, hlq, _, hcq⟩ := hfacts.out _ N _ hN.out hown q hqn
              cases hg'
              obtain ⟨fxq, cxq, hcxq⟩ := hcx q hqn
              obtain ⟨fqx, cqx, hcqx⟩ := hcq x hlt
              go_wp2_with (first | (go_at_call 28; refine (l1In_any _ _ _ _).mono ?_; (first | rw [hpt.out] | rw [hlt2.out]); rintro e w3 ⟨rfl, rfl⟩))
              have hg2 := hid (hN.out.put hlt hqn l (g' := fun u v => if u = x ∧ v = q then l else edV (paL P) (leL L) n x (-1) u v) (fun u v _ _ => rfl))
              have ed : Ext wo wo.drew := inferInstance
              have ownd := hown.ext (w' := wo.drew) (e := ed)
              have hbd : Below B W wo.drew := hb0.trans (ed.below.mono (Nat.le_trans hBW hb0.size))
              have tbd := ed.cell tb
              have txd := ed.cell tx
              have tld := ed.cell hcl
              have tcd := ed.cell hcxq
              have tfd := ed.frozen hcxq fxq
              refine wp_region_E_drew (X := fun i => i == 12) (S := fun u => u.cell? ⟨b, 0, none⟩ = some (.slice (some ⟨g, 0, none⟩) n m0) ∧ u.cell? ⟨g, x, none⟩ = some (.slice (some ⟨gx, 0, none⟩) n mx) ∧ u.cell? ⟨gl, ol + (x - 1), none⟩ = some (.int .i64 l)) (by kernel_rfl) ⟨tbd, txd, tld⟩ (fun hHeld0 => ?_)
              generalize wo.drew = wd at *
              refine wpAnyE_take (i := 0) (v := .pointer (some ⟨b, 0, none⟩)) rfl (by kernel_rfl) (by kernel_rfl) (by kernel_rfl) (fun _ _ _ h => h) (Or.inl ⟨by rfl, by intro wx hx; go_simp⟩) (by assumption) ?_
              try simp only [List.getElem_toArray, List.getElem_cons_zero, Act.put, List.setIfInBounds_toArray, List.set_cons_zero, List.set_cons_succ]
              refine wpAnyE_take (i := 1) (v := .slice (some ⟨g, 0, none⟩) n m0) rfl (by kernel_rfl) (by kernel_rfl) (by kernel_rfl) (fun _ _ _ h => h) (Or.inl ⟨by rfl, by intro wx hx; obtain ⟨_, _, _⟩ := hx; go_simp⟩) (by assumption) ?_
              try simp only [List.getElem_toArray, List.getElem_cons_succ, List.getElem_cons_zero, Act.put, List.setIfInBounds_toArray, List.set_cons_zero, List.set_cons_succ]
              refine wpAnyE_take (i := 2) (v := .int .i64 x) rfl (by kernel_rfl) (by kernel_rfl) (by kernel_rfl) (fun _ _ _ h => h) (Or.inl ⟨by rfl, by intro wx hx; go_simp⟩) (by assumption) ?_
              try simp only [List.getElem_toArray, List.getElem_cons_succ, List.getElem_cons_zero, Act.put, List.setIfInBounds_toArray, List.set_cons_zero, List.set_cons_succ]
              refine wpAnyE_take (i := 3) (v := .pointer (some ⟨g, x, none⟩)) rfl (by kernel_rfl) (by kernel_rfl) (by kernel_rfl) (fun _ _ _ h => h) (Or.inl ⟨by rfl, by intro wx hx; go_simp⟩) (by assumption) ?_
              try simp only [List.getElem_toArray, List.getElem_cons_succ, List.getElem_cons_zero, Act.put, List.setIfInBounds_toArray, List.set_cons_zero, List.set_cons_succ]
              refine wpAnyE_take (i := 4) (v := .slice (some ⟨gx, 0, none⟩) n mx) rfl (by kernel_rfl) (by kernel_rfl) (by kernel_rfl) (fun _ _ _ h => h) (Or.inl ⟨by rfl, by intro wx hx; obtain ⟨_, _, _⟩ := hx; go_simp⟩) (by assumption) ?_
              try simp only [List.getElem_toArray, List.getElem_cons_succ, List.getElem_cons_zero, Act.put, List.setIfInBounds_toArray, List.set_cons_zero, List.set_cons_succ]
              refine wpAnyE_take (i := 5) (v := .int .i64 q) rfl (by kernel_rfl) (by kernel_rfl) (by kernel_rfl) (fun _ _ _ h => h) (Or.inl ⟨by rfl, by intro wx hx; go_simp⟩) (by assumption) ?_
              try simp only [List.getElem_toArray, List.getElem_cons_succ, List.getElem_cons_zero, Act.put, List.setIfInBounds_toArray, List.set_cons_zero, List.set_cons_succ]
              refine wpAnyE_take (i := 6) (v := .slice (some ⟨gl, ol, none⟩) P.length ml) rfl (by kernel_rfl) (by kernel_rfl) (by kernel_rfl) (fun _ _ _ h => h) (Or.inl ⟨by rfl, by intro wx hx; go_simp⟩) (by assumption) ?_
              try simp only [List.getElem_toArray, List.getElem_cons_succ, List.getElem_cons_zero, Act.put, List.setIfInBounds_toArray, List.set_cons_zero, List.set_cons_succ]
              refine wpAnyE_take (i := 7) (v := .int .i64 x) rfl (by kernel_rfl) (by kernel_rfl) (by kernel_rfl) (fun _ _ _ h => h) (Or.inl ⟨by rfl, by intro wx hx; go_simp⟩) (by assumption) ?_
              try simp only [List.getElem_toArray, List.getElem_cons_succ, List.getElem_cons_zero, Act.put, List.setIfInBounds_toArray, List.set_cons_zero, List.set_cons_succ]
              refine wpAnyE_take (i := 8) (v := .int .i64 ((x : Int) - 1)) rfl (by kernel_rfl) (by kernel_rfl) (by kernel_rfl) (fun _ _ _ h => h) (Or.inl ⟨by rfl, by intro wx hx; go_simp⟩) (by assumption) ?_
              try simp only [List.getElem_toArray, List.getElem_cons_succ, List.getElem_cons_zero, Act.put, List.setIfInBounds_toArray, List.set_cons_zero, List.set_cons_succ]
              refine wpAnyE_take (i := 9) (v := .pointer (some ⟨gl, ol + (x - 1), none⟩)) rfl (by kernel_rfl) (by kernel_rfl) (by kernel_rfl) (fun _ _ _ h => h) (Or.inl ⟨by rfl, by intro wx hx; go_simp; intro h; exfalso; omega⟩) (by assumption) ?_
              try simp only [List.getElem_toArray, List.getElem_cons_succ, List.getElem_cons_zero, Act.put, List.setIfInBounds_toArray, List.set_cons_zero, List.set_cons_succ]
              refine wpAnyE_take (i := 10) (v := .int .i64 l) rfl (by kernel_rfl) (by kernel_rfl) (by kernel_rfl) (fun _ _ _ h => h) (Or.inl ⟨by rfl, by intro wx hx; obtain ⟨_, _, _⟩ := hx; go_simp⟩) (by assumption) ?_
              try simp only [List.getElem_toArray, List.getElem_cons_succ, List.getElem_cons_zero, Act.put, List.setIfInBounds_toArray, List.set_cons_zero, List.set_cons_succ]
              refine wpAnyE_take (i := 11) (v := .pointer (some ⟨gx, q, none⟩)) rfl (by kernel_rfl) (by kernel_rfl) (by kernel_rfl) (fun _ _ _ h => h) (Or.inl ⟨by rfl, by intro wx hx; go_simp⟩) (by assumption) ?_
              try simp only [List.getElem_toArray, List.getElem_cons_succ, List.getElem_cons_zero, Act.put, List.setIfInBounds_toArray, List.set_cons_zero, List.set_cons_succ]
              refine wpAnyE_ready (rs := [12]) (by kernel_rfl) (by simp) ?_
              refine AllReadyE.cons rfl (fun K hK => ?_) AllReadyE.nil
              go_simp
              refine hK.out _ _ (.inl rfl) (fun _ => ?_)
              clear hK K
              try simp only [List.getElem_toArray, List.getElem_cons_succ, List.getElem_cons_zero, Act.put, List.setIfInBounds_toArray, List.set_cons_zero, List.set_cons_succ]
              refine wpAnyE_done (by kernel_rfl) ?_ _
              have own2 := rw_put ownd (by rw [hvs.out, hNn]) (by rw [hNn]; exact hlt) hux hlx q l
              have hb2 := hbd.setCell hBx (p := ⟨gx, q, none⟩) (.int .i64 l)
              have hlN : (N.set x ((row N x).set q l)).length = n := by rw [List.length_set, hNn]
              obtain ⟨g', gq, mq, hg', tb2, tq, huq, hBq, hlq, _, hcq⟩ := hfacts.out _ _ _ hg2.out own2 q hqn
              cases hg'
              obtain ⟨fqx, cqx, hcqx⟩ := hcq x hlt
              have tl2 := (hE.out _ hb2).cell hcl0.out
              have hTb := hid (hg2.out.put hqn hlt l (g' := edV (paL P) (leL L) n (x + 1) (-1)) (fun u v hu hv => by
                rw [edV_step (by rw [hpq.out.1]; exact hqx), hpq.out.1, hpq.out.2]))
              clear tb tx tbd txd tld tcd tfd hcxq hcl ownd hbd hown hb0 hHeld0 hcx ed
              generalize wd.setCell ⟨gx, q, none⟩ (.int .i64 l) = w2 at *
              have hB2 : B ≤ w2.heap.size := Nat.le_trans hBW hb2.size
              go_upto_region 12 with fail
              have ed : Ext w2 w2.drew := inferInstance
              have ownd := own2.ext (w' := w2.drew) (e := ed)
              have hbd : Below B W w2.drew := hb2.trans (ed.below.mono hB2)
              have tbd := ed.cell tb2
              have tqd := ed.cell tq
              have tld := ed.cell tl2
              have tcd := ed.cell hcqx
              have tfd := ed.frozen hcqx fqx
              refine wp_region_E_drew (X := fun i => i == 12) (S := fun u => u.cell? ⟨b, 0, none⟩ = some (.slice (some ⟨g, 0, none⟩) n m0) ∧ u.cell? ⟨g, q, none⟩ = some (.slice (some ⟨gq, 0, none⟩) n mq) ∧ u.cell? ⟨gl, ol + (x - 1), none⟩ = some (.int .i64 l)) (by kernel_rfl) ⟨tbd, tqd, tld⟩ (fun hHeld0 => ?_)
              generalize w2.drew = wd at *
              refine wpAnyE_take (i := 0) (v := .pointer (some ⟨b, 0, none⟩)) rfl (by kernel_rfl) (by kernel_rfl) (by kernel_rfl) (fun _ _ _ h => h) (Or.inl ⟨by rfl, by intro wx hx; go_simp⟩) (by assumption) ?_
              try simp only [List.getElem_toArray, List.getElem_cons_zero, Act.put, List.setIfInBounds_toArray, List.set_cons_zero, List.set_cons_succ]
              refine wpAnyE_take (i := 1) (v := .slice (some ⟨g, 0, none⟩) n m0) rfl (by kernel_rfl) (by kernel_rfl) (by kernel_rfl) (fun _ _ _ h => h) (Or.inl ⟨by rfl, by intro wx hx; obtain ⟨_, _, _⟩ := hx; go_simp⟩) (by assumption) ?_
              try simp only [List.getElem_toArray, List.getElem_cons_succ, List.getElem_cons_zero, Act.put, List.setIfInBounds_toArray, List.set_cons_zero, List.set_cons_succ]
              refine wpAnyE_take (i := 2) (v := .int .i64 q) rfl (by kernel_rfl) (by kernel_rfl) (by kernel_rfl) (fun _ _ _ h => h) (Or.inl ⟨by rfl, by intro wx hx; go_simp⟩) (by assumption) ?_
              try simp only [List.getElem_toArray, List.getElem_cons_succ, List.getElem_cons_zero, Act.put, List.setIfInBounds_toArray, List.set_cons_zero, List.set_cons_succ]
              refine wpAnyE_take (i := 3) (v := .pointer (some ⟨g, q, none⟩)) rfl (by kernel_rfl) (by kernel_rfl) (by kernel_rfl) (fun _ _ _ h => h) (Or.inl ⟨by rfl, by intro wx hx; go_simp⟩) (by assumption) ?_
              try simp only [List.getElem_toArray, List.getElem_cons_succ, List.getElem_cons_zero, Act.put, List.setIfInBounds_toArray, List.set_cons_zero, List.set_cons_succ]
              refine wpAnyE_take (i := 4) (v := .slice (some ⟨gq, 0, none⟩) n mq) rfl (by kernel_rfl) (by kernel_rfl) (by kernel_rfl) (fun _ _ _ h => h) (Or.inl ⟨by rfl, by intro wx hx; obtain ⟨_, _, _⟩ := hx; go_simp⟩) (by assumption) ?_
              try simp only [List.getElem_toArray, List.getElem_cons_succ, List.getElem_cons_zero, Act.put, List.setIfInBounds_toArray, List.set_cons_zero, List.set_cons_succ]
              refine wpAnyE_take (i := 5) (v := .int .i64 x) rfl (by kernel_rfl) (by kernel_rfl) (by kernel_rfl) (fun _ _ _ h => h) (Or.inl ⟨by rfl, by intro wx hx; go_simp⟩) (by assumption) ?_
              try simp only [List.getElem_toArray, List.getElem_cons_succ, List.getElem_cons_zero, Act.put, List.setIfInBounds_toArray, List.set_cons_zero, List.set_cons_succ]
              refine wpAnyE_take (i := 6) (v := .slice (some ⟨gl, ol, none⟩) P.length ml) rfl (by kernel_rfl) (by kernel_rfl) (by kernel_rfl) (fun _ _ _ h => h) (Or.inl ⟨by rfl, by intro wx hx; go_simp⟩) (by assumption) ?_
              try simp only [List.getElem_toArray, List.getElem_cons_succ, List.getElem_cons_zero, Act.put, List.setIfInBounds_toArray, List.set_cons_zero, List.set_cons_succ]
              refine wpAnyE_take (i := 7) (v := .int .i64 x) rfl (by kernel_rfl) (by kernel_rfl) (by kernel_rfl) (fun _ _ _ h => h) (Or.inl ⟨by rfl, by intro wx hx; go_simp⟩) (by assumption) ?_
              try simp only [List.getElem_toArray, List.getElem_cons_succ, List.getElem_cons_zero, Act.put, List.setIfInBounds_toArray, List.set_cons_zero, List.set_cons_succ]
              refine wpAnyE_take (i := 8) (v := .int .i64 ((x : Int) - 1)) rfl (by kernel_rfl) (by kernel_rfl) (by kernel_rfl) (fun _ _ _ h => h) (Or.inl ⟨by rfl, by intro wx hx; go_simp⟩) (by assumption) ?_
              try simp only [List.getElem_toArray, List.getElem_cons_succ, List.getElem_cons_zero, Act.put, List.setIfInBounds_toArray, List.set_cons_zero, List.set_cons_succ]
              refine wpAnyE_take (i := 9) (v := .pointer (some ⟨gl, ol + (x - 1), none⟩)) rfl (by kernel_rfl) (by kernel_rfl) (by kernel_rfl) (fun _ _ _ h => h) (Or.inl ⟨by rfl, by intro wx hx; go_simp; intro h; exfalso; omega⟩) (by assumption) ?_
              try simp only [List.getElem_toArray, List.getElem_cons_succ, List.getElem_cons_zero, Act.put, List.setIfInBounds_toArray, List.set_cons_zero, List.set_cons_succ]
              refine wpAnyE_take (i := 10) (v := .int .i64 l) rfl (by kernel_rfl) (by kernel_rfl) (by kernel_rfl) (fun _ _ _ h => h) (Or.inl ⟨by rfl, by intro wx hx; obtain ⟨_, _, _⟩ := hx; go_simp⟩) (by assumption) ?_
              try simp only [List.getElem_toArray, List.getElem_cons_succ, List.getElem_cons_zero, Act.put, List.setIfInBounds_toArray, List.set_cons_zero, List.set_cons_succ]
              refine wpAnyE_take (i := 11) (v := .pointer (some ⟨gq, x, none⟩)) rfl (by kernel_rfl) (by kernel_rfl) (by kernel_rfl) (fun _ _ _ h => h) (Or.inl ⟨by rfl, by intro wx hx; go_simp⟩) (by assumption) ?_
              try simp only [List.getElem_toArray, List.getElem_cons_succ, List.getElem_cons_zero, Act.put, List.setIfInBounds_toArray, List.set_cons_zero, List.set_cons_succ]
              refine wpAnyE_ready (rs := [12]) (by kernel_rfl) (by simp) ?_
              refine AllReadyE.cons rfl (fun K hK => ?_) AllReadyE.nil
              go_simp
              refine hK.out _ _ (.inl rfl) (fun _ => ?_)
              clear hK K
              try simp only [List.getElem_toArray, List.getElem_cons_succ, List.getElem_cons_zero, Act.put, List.setIfInBounds_toArray, List.set_cons_zero, List.set_cons_succ]
              refine wpAnyE_done (by kernel_rfl) ?_ _
              have own3 := rw_put ownd (by rw [hvs.out, hlN]) (by rw [hlN]; exact hqn) huq hlq x l
              have hb3 := hbd.setCell hBq (p := ⟨gq, x, none⟩) (.int .i64 l)
              generalize wd.setCell ⟨gq, x, none⟩ (.int .i64 l) = w3 at *
              go_wp2_with fail
              go_roundw
              case rel => exact ⟨x + 1, by omega, by omega, by go_num, hb3, hok2, _, hTb, own3⟩
              case measure => simp [intOf]; omega
            · have hlf := hid (show inB l 1 99 = false from decide_eq_false hlo)
              have hno := hid (tm_no3 (P := P) (L := L) (i := x - 1) hxp (by
                unfold edOk
                rw [← hp, ← hl]
                omega))
              replace hp := hid hp
              replace hl := hid hl
              replace hnP := hid hnP
              replace hpo := hid hpo
              replace hlo := hid hlo
              go_wp2_with (first | (go_at_call 28; refine (l1In_any _ _ _ _).mono ?_; (first | rw [hpt.out] | rw [hlf.out]); rintro e w3 ⟨rfl, rfl⟩))
              have hset : (wo.setCell ⟨r, 0, none⟩ (.slice none 0 0)).cell? ⟨r, 0, none⟩ = some (.slice none 0 0) := by go_simp
              have eF : Ext w (wo.setCell ⟨r, 0, none⟩ (.slice none 0 0)) := ⟨ewo.below.setCell hrw.out _⟩
              refine bodyPost_ret (v := .tuple #[.agg #[.slice none 0 0], .bool false]) (by simp [results, Try.results7, go_sem, hset]) rfl ?_
              exact ⟨_, by rw [hno.out], by rw [tm_off hno.out]; exact IsMet.none _, eF⟩
          · have hpf := hid (show inB p 0 ((x : Int) - 1) = false from decide_eq_false hpo)
            have hno := hid (tm_no3 (P := P) (L := L) (i := x - 1) hxp (by
              unfold edOk
              rw [← hp, ← hl]
              omega))
            replace hp := hid hp
            replace hl := hid hl
            replace hnP := hid hnP
            replace hpo := hid hpo
            go_wp2_with (first | (go_at_call 28; refine (l1In_any _ _ _ _).mono ?_; rw [hpf.out]; rintro e w3 ⟨rfl, rfl⟩))
            have hset : (wo.setCell ⟨r, 0, none⟩ (.slice none 0 0)).cell? ⟨r, 0, none⟩ = some (.slice none 0 0) := by go_simp
            have eF : Ext w (wo.setCell ⟨r, 0, none⟩ (.slice none 0 0)) := ⟨ewo.below.setCell hrw.out _⟩
            refine bodyPost_ret (v := .tuple #[.agg #[.slice none 0 0], .bool false]) (by simp [results, Try.results7, go_sem, hset]) rfl ?_
            exact ⟨_, by rw [hno.out], by rw [tm_off hno.out]; exact IsMet.none _, eF⟩
        · obtain rfl : x = n := by omega
          have hlen : ∀ i, i < P.length → edOk P L i := fun i hi => hok.out i (by have := hn.out; omega)
          have hy3 := hid (tm_yes h5 hll.out hlen)
          have htr := tm_tr (P := P) (L := L) hll.out hlen
          rw [← hn.out] at htr
          have htm := hid (show tmT P L = trT (paL P) (leL L) x by unfold tmT; rw [← hn.out])
          have hMk : MOk N := tb_mok hN.out (by have := hn1.out; omega) (edV_i64 htr.1 htr.2 (by unfold I64; omega))
          have hNl := hN.out.len
          have hmN : IsMet wo (.agg #[.slice d0 x m0]) N := met_own (m := m0) (by rw [hNl] at *; exact hown) (by rw [hvs.out, hNl]) hMk
          have hT := trD_mt htr.1
          have hCl := (@l6CloseJ_any (.agg #[.slice d0 x m0]) N (fun y x' z N' => GJ (trD (paL P) (leL L) x) x (99 * 2 ^ y) y x' z N') wo wo (Ext.refl _) hmN hMk (by
            have := GJ.begin htr.1 htr.2 (by have := hn1.out; omega) hN.out
            simpa using this) (by
            rw [hNl]
            intro y x' z N' hy hx' hz _ _ hJ
            have h2 := two_pow_le (y := y) (by have := hn1.out; omega)
            exact hJ.step hT h2.2 h2.1 hy hx' hz _ rfl) (by
            rw [hNl]
            intro y x' N' hJ
            exact hJ.row) (by
            rw [hNl]
            intro y N' hJ
            have h2 := hJ.next (two_pow_le_nn y)
            rw [show (99 : Int) * 2 ^ (y + 1) = 2 * (99 * 2 ^ y) by rw [Int.pow_succ]; omega]
            exact h2))
          rw [hNl] at hCl
          replace hCl := hid hCl
          have hTb := hid (fun (N' : List (List Int)) (h : GJ (trD (paL P) (leL L) x) x (99 * 2 ^ x) x 0 0 N') => (show N' = tmT P L from by
            rw [htm.out]
            exact (GJ.fin (fun u v hu hv => by
              have := trD_le_far htr.1 htr.2 u v hu hv
              have := hn1.out
              omega) h).trT))
          have hsq := hid hNl
          obtain ⟨tb⟩ : Nonempty (wo.cell? ⟨b, 0, none⟩ = some (.slice d0 x m0)) := ⟨ow_cell hown (List.mem_append_right _ (List.Mem.head _)) (j := 0) (by omega)⟩
          clear hT htr hMk hmN hlen hok hown hN
          cases hmb : metB (tmT P L) with
          | false =>
            replace hmb := hid hmb
            have hno := hid (hy3.out.trans hmb.out)
            go_wp2_with fail
            with_reducible refine hCl.out.mono ?_
            rintro e w4 ⟨d1, m1, vs1, N1, rfl, hv1, hl1, hk1, hJ1, own4, e4⟩
            obtain rfl := hTb.out N1 hJ1
            have hm4 : IsMet w4 (.agg #[.slice d1 (tmT P L).length m1]) (tmT P L) := met_own (R := []) (by simpa using own4) hv1 hk1
            rw [hl1] at hm4 own4
            have hGv := hid (@l6Give_any (.slice d1 x m1) (tmT P L) w4 w4 (Ext.refl _) hm4)
            go_wp2_with fail
            with_reducible refine hGv.out.mono ?_
            rw [hmb.out, if_neg (by simp)]
            rintro e w5 ⟨rfl, e5⟩
            have e45 : Ext wo w5 := Ext.trans e4 e5
            have e5w : Ext w w5 := Ext.trans ewo e45
            have x5 := e45.cell xo
            have f5 := e45.frozen xo xfo
            have hset : (w5.setCell ⟨r, 0, none⟩ (.slice none 0 0)).cell? ⟨r, 0, none⟩ = some (.slice none 0 0) := by go_simp
            have eF : Ext w (w5.setCell ⟨r, 0, none⟩ (.slice none 0 0)) := ⟨e5w.below.setCell hrw.out _⟩
            go_wp2_with fail
            refine bodyPost_ret (v := .tuple #[.agg #[.slice none 0 0], .bool false]) (by simp [results, Try.results7, go_sem, hset]) rfl ?_
            exact ⟨_, by rw [hno.out], by rw [tm_off hno.out]; exact IsMet.none _, eF⟩
          | true =>
            replace hmb := hid hmb
            have hno := hid (hy3.out.trans hmb.out)
            go_wp2_with fail
            with_reducible refine hCl.out.mono ?_
            rintro e w4 ⟨d1, m1, vs1, N1, rfl, hv1, hl1, hk1, hJ1, own4, e4⟩
            obtain rfl := hTb.out N1 hJ1
            have hm4 : IsMet w4 (.agg #[.slice d1 (tmT P L).length m1]) (tmT P L) := met_own (R := []) (by simpa using own4) hv1 hk1
            rw [hl1] at hm4 own4
            have hGv := hid (@l6Give_any (.slice d1 x m1) (tmT P L) w4 w4 (Ext.refl _) hm4)
            go_wp2_with fail
            with_reducible refine hGv.out.mono ?_
            rw [hmb.out, if_pos rfl]
            rintro e w5 ⟨rfl, e5⟩
            have e45 : Ext wo w5 := Ext.trans e4 e5
            have e5w : Ext w w5 := Ext.trans ewo e45
            have x5 := e45.cell xo
            have f5 := e45.frozen xo xfo
            have hset : (w5.setCell ⟨r, 0, none⟩ (.slice d1 x m1)).cell? ⟨r, 0, none⟩ = some (.slice d1 x m1) := by go_simp
            have eF : Ext w (w5.setCell ⟨r, 0, none⟩ (.slice d1 x m1)) := ⟨e5w.below.setCell hrw.out _⟩
            have own6 := (own4.ext (w' := w5) (e := e5)).setBelow (p := ⟨r, 0, none⟩) (Nat.lt_of_lt_of_le hrB (Nat.le_trans hBW hb0.size)) (.slice d1 x m1)
            have hm6 : IsMet (w5.setCell ⟨r, 0, none⟩ (.slice d1 x m1)) (.agg #[.slice d1 x m1]) (tmT P L) := met_own (R := []) (by simpa using own6) hv1 hk1
            go_wp2_with fail
            refine bodyPost_ret (v := .tuple #[.agg #[.slice d1 x m1], .bool true]) (by simp [results, Try.results7, go_sem, hset]) rfl ?_
            exact ⟨_, by rw [hno.out], by rw [tm_on hno.out]; exact hm6, eF⟩
    · have hno := hid (tm_no2 hll)
      have hne : ¬ (L.length : Int) = (P.length : Int) := by omega
      have hneb : ((L.length : Int) == (P.length : Int)) = false := beq_eq_false_iff_ne.2 hne
      obtain ⟨wo, rfl⟩ : ∃ y : World, y = wa := ⟨_, rfl⟩
      have ewo := ez
      have hset : (wo.setCell ⟨r, 0, none⟩ (.slice none 0 0)).cell? ⟨r, 0, none⟩ = some (.slice none 0 0) := by go_simp
      have eF : Ext w (wo.setCell ⟨r, 0, none⟩ (.slice none 0 0)) := ⟨ewo.below.setCell hrw.out _⟩
      go_wp2_with fail
      refine bodyPost_ret (v := .tuple #[.agg #[.slice none 0 0], .bool false]) (by simp [results, Try.results7, go_sem, hset]) rfl ?_
      exact ⟨_, by rw [hno.out], by rw [tm_off hno.out]; exact IsMet.none _, eF⟩
  · have hno := hid (tm_no1 (L := L) h5)
    have h6 : (6 : Int) < (P.length : Int) + 1 := by omega
    obtain ⟨wo, rfl⟩ : ∃ y : World, y = wa := ⟨_, rfl⟩
    have ewo := ez
    have hset : (wo.setCell ⟨r, 0, none⟩ (.slice none 0 0)).cell? ⟨r, 0, none⟩ = some (.slice none 0 0) := by go_simp
    have eF : Ext w (wo.setCell ⟨r, 0, none⟩ (.slice none 0 0)) := ⟨ewo.below.setCell hrw.out _⟩
    go_wp2_with fail
    refine bodyPost_ret (v := .tuple #[.agg #[.slice none 0 0], .bool false]) (by simp [results, Try.results7, go_sem, hset]) rfl ?_
    exact ⟨_, by rw [hno.out], by rw [tm_off hno.out]; exact IsMet.none _, eF⟩
end Go.Proofs.Ytnlbjbnjjkilhaa
