/- Several texts in one: the last ones and the statement. -/
import Derived.Test.YtmgcfnciejfpbaaGreatTailFnCruelRequests1
import Derived.Test.YtmgcfnciejfpbaaGreatSrt
import Derived.Test.YtmgcfnciejfpbaaGreatSrvB
import Derived.Test.YtmgcfnciejfpbaaGreatTailFnCruelRequests0
import Derived.Test.YtmgcfnciejfpbaaGreatHas
import Derived.Test.YtmgcfnciejfpbaaGreatLawB
/- The choice of the work function algorithm, the program's. -/
namespace Go.Proofs.YtmgcfnciejfpbaaGreat
open Go.RowKit

theorem sv_yesI {M P : List (List Int)} {nx a : List Int} {r : Int} {s : Nat} (h : svN M P nx a r s < (svT M P nx a r s).2.2 ∨ (svN M P nx a r s = (svT M P nx a r s).2.2 ∧ lexC (svX a r s) (svT M P nx a r s).1 < 0)) : (svT M P nx a r (s + 1)).1 = svX a r s ∧ (svT M P nx a r (s + 1)).2.1 = cell M (nth a s).toNat r.toNat ∧ (svT M P nx a r (s + 1)).2.2 = svN M P nx a r s := by
  rw [svT_yes h]
  exact ⟨rfl, rfl, rfl⟩

set_option maxHeartbeats 3200000 in
set_option maxRecDepth 100000 in
theorem serve_any {v vx va : Value} {M : List (List Int)} {nx a : List Int} {k : Nat} {r L : Int} {w0 w : World} [Ext w0 w] (hW : IsWorks w0 v M (confs M.length k 0)) (hM : metB M = true) (hn : IsInts w0 vx nx) (ha : IsInts w0 va a) (h1k : 1 ≤ k) (hk : k ≤ 3) (hac : a ∈ confs M.length k 0) (hg : GoodW M (confs M.length k 0) nx L) (hL : L ≤ 2000000) (hr : 0 ≤ r ∧ r < (M.length : Int)) :
    Calls Tryz.prog 93 #[v, vx, va, .int .i64 r] w fun e w' => ∃ u, e = .returned (.tuple #[u, .int .i64 (svK M (confs M.length k 0) nx a r)]) ∧ Own w' w.heap.size [intRowOf 3 u (svC M (confs M.length k 0) nx a r)] ∧ Ext w w' := by
  obtain ⟨rn, rfl⟩ : ∃ rn : Nat, r = (rn : Int) := ⟨r.toNat, by omega⟩
  have hW' := hW
  obtain ⟨bx, mv, pv, cv, rfl, h0, h1, h2, hR, hP, hCs⟩ := hW
  obtain ⟨a1, c1, rfl, l1⟩ := hR.form
  clear h1 h2 hP hCs
  obtain ⟨dw, mw, rfl, lw⟩ := hn.form
  have ha' := ha
  obtain ⟨da, ma, rfl, la⟩ := ha.form
  have hMl := met_len hM
  have hMr := hid (fun (x : Nat) (hx : x < M.length) => met_row hM hx)
  have hdst := hid (dst_of_met hM)
  replace hM := hid hM
  have hrn : rn < M.length := by omega
  have hri := hid (show I64 (rn : Int) by unfold I64; omega)
  have hrp := hid hr
  clear hr
  obtain ⟨hak, _, hap0⟩ := confs_iff.1 hac
  have hap : Pts M.length a := fun x hx => by have := hap0 x hx; omega
  clear hap0
  have hasc := hid (confs_asc M.length k 0)
  have hSw := hid (show ∀ s, s < k → svX a rn s ∈ confs M.length k 0 from fun s hs => (set_conf hac hs hrp.out).1)
  have hNi := hid (fun (s : Nat) (hs : s < k) => svN_in hdst.out hg hac hs hrp.out)
  have hwb := hid (show ∀ j, j < (confs M.length k 0).length → 0 ≤ nth nx j ∧ nth nx j ≤ 2000000 from fun j hj => by have := hg.2 j hj; omega)
  have hlw := hid hg.1.1
  replace hg := hid hg
  replace hac := hid hac
  have h216 := confs_216 hMl.2 hk
  have hak3 : a.length ≤ 3 := by omega
  replace hak := hid hak
  obtain ⟨B, hB⟩ : ∃ b, b = w.heap.size := ⟨_, rfl⟩
  have hEx := hid (show ∀ u, Below B w u → Ext w u from fun u h => ⟨by rw [← hB]; exact h⟩)
  have hBl : ∀ u, Ext w u → B ≤ u.heap.size := fun u e => by rw [hB]; exact e.size
  replace hBl := hid hBl
  rw [← hB]
  replace hB := hid hB
  cases hh : hasB a rn with
  | true =>
    have hC := hid (show svC M (confs M.length k 0) nx a rn = a by rw [svC, hh]; rfl)
    have hK := hid (show svK M (confs M.length k 0) nx a rn = 0 by rw [svK, hh]; rfl)
    replace hh := hid hh
    go_enter Tryz.func93, Tryz.ntmps93
    go_wp2_with fail
    with_reducible refine (sContains_any (w0 := w0) ha').mono ?_
    rw [hh.out]
    rintro e w1 ⟨rfl, rfl⟩
    go_wp2_with fail
    with_reducible refine (cloneInts_any (w0 := w0) ha').mono ?_
    rintro e w2 ⟨d, m, rfl, own, e2⟩
    go_wp2_with fail
    go_ret2
    exact ⟨.slice d a.length m, ret_tuple2 rfl (by rw [hK.out]; rfl), by rw [hC.out, hB.out]; exact own, e2⟩
  | false =>
    have hC := hid (show svC M (confs M.length k 0) nx a rn = (svT M (confs M.length k 0) nx a rn a.length).1 by rw [svC, hh]; rfl)
    have hK := hid (show svK M (confs M.length k 0) nx a rn = (svT M (confs M.length k 0) nx a rn a.length).2.1 by rw [svK, hh]; rfl)
    replace hh := hid hh
    obtain ⟨P, hPd⟩ : ∃ p, p = confs M.length k 0 := ⟨_, rfl⟩
    rw [← hPd] at hSw hNi hwb hlw h216 hC hK hasc hW' ⊢
    replace hPd := hid hPd
    go_enter Tryz.func93, Tryz.ntmps93
    go_wp2_with fail
    with_reducible refine (sContains_any (w0 := w0) ha').mono ?_
    rw [hh.out]
    rintro e w1 ⟨rfl, rfl⟩
    go_wp2_with fail
    go_loopw [10, 11, 12, 24] (fun bv cv lv i wr => ∃ s : Nat, s ≤ a.length ∧ i = .int .i64 s ∧ lv = .int .i64 (svT M P nx a rn s).2.2 ∧ cv = .int .i64 (svT M P nx a rn s).2.1 ∧ Own wr B [intRowOf 3 bv (svT M P nx a rn s).1] ∧ Below B w wr) (fun _ _ _ i _ => a.length - (intOf i).toNat)
    case atStart => exact ⟨0, by omega, rfl, rfl, rfl, (Own.nil _ _).cons_nil _ _, Below.refl _ _⟩
    case round =>
      obtain ⟨s, hs, rfl, rfl, rfl, hown, hb⟩ := hrel
      obtain ⟨wo, rfl⟩ : ∃ y : World, y = wr := ⟨_, rfl⟩
      have hx : Ext w wo := hEx.out _ hb
      have hBo := hBl.out wo hx
      by_cases hlt : s < a.length
      · have hsk : s < k := by rw [← hak.out]; exact hlt
        have e0o : Ext w0 wo := Ext.trans ‹Ext w0 w› hx
        have hmem := hid (hSw.out s hsk)
        have htl := (atR_lt hmem.out).1
        obtain ⟨ba, oa, x, hd1, hxx, hxM, hca⟩ := ha.pt (w' := wo) hap (k := s) hlt
        cases hd1
        obtain ⟨bM, oM, dR, mR, hdM, hcM, hiR, _⟩ := hR.at (w' := wo) (k := x) hxM
        cases hdM
        have hRl : rn < (row M x).length := by rw [hMr.out x hxM]; exact hrn
        obtain ⟨bR, oR, hdR, hcR⟩ := hiR.at (w' := wo) (k := rn) hRl
        cases hdR
        have hswi := hid (show ∀ y ∈ svX a rn s, I64 y from pts_i64 (n := M.length) ((hap.set hrp.out).perm (sortL_perm _)) (by omega))
        have hmov := hid (show movL a (x : Int) rn = svX a rn s by rw [← hxx]; exact mov_sv hlt)
        have hxa := hid (show (x : Int) ∈ a by rw [← hxx]; exact nth_mem hlt)
        have hXl := hid (show (svX a rn s).length = a.length by rw [svX, sortL_len, List.length_set])
        obtain ⟨t, ht⟩ : ∃ t, t = atR P (svX a rn s) := ⟨_, rfl⟩
        rw [← ht] at htl
        have htw : t < nx.length := by rw [hlw.out]; exact htl
        obtain ⟨bw, ow, hdw, hcw⟩ := hn.at (w' := wo) htw
        cases hdw
        have x0q := (Ext.trans ‹Ext w0 w› hx).cell h0
        have hsum := hid (show svN M P nx a rn s = nth nx t + nth (row M x) rn by
          unfold svN
          rw [← ht, hxx]
          rfl)
        have hdcv := hid (show cell M (nth a s).toNat ((rn : Int)).toNat = nth (row M x) rn by rw [hxx]; rfl)
        have hq1 := hwb.out t htl
        have hq2 : 0 ≤ nth (row M x) rn ∧ nth (row M x) rn ≤ 99 := hdst.out.pos x rn hxM hrn
        have hy := hid (fun h => sv_yesI (M := M) (P := P) (nx := nx) (a := a) (r := rn) (s := s) h)
        have hz := hid (fun h => svT_no (M := M) (P := P) (nx := nx) (a := a) (r := rn) (s := s) h)
        have hbl : Hid (∀ y ∈ (svT M P nx a rn s).1, I64 y) := hid (by
          by_cases h0 : s = 0
          · subst h0; intro y hy; cases hy
          · obtain ⟨q, hq, h2⟩ := svT_at (M := M) (P := P) (nx := nx) (a := a) (r := rn) (s := s) (fun q hq => by
              have h1 := (hSw.out q (by omega))
              have h2 := hwb.out _ (atR_lt h1).1
              obtain ⟨_, _, y, _, hy, hyM, _⟩ := ha'.pt (w' := w) hap (k := q) (by omega)
              have h3 := hdst.out.pos y rn hyM hrn
              have h4 : cell M (nth a q).toNat ((rn : Int)).toNat = cell M y rn := by rw [hy]; rfl
              unfold svN
              rw [h4]
              omega) (by omega)
            rw [h2]
            exact pts_i64 (n := M.length) ((hap.set hrp.out).perm (sortL_perm _)) (by omega))
        have hbk : Hid ((svT M P nx a rn s).1.length ≤ 3) := hid (by
          by_cases h0 : s = 0
          · subst h0; simp [svT]
          · obtain ⟨q, hq, h2⟩ := svT_at (M := M) (P := P) (nx := nx) (a := a) (r := rn) (s := s) (fun q hq => by
              have h1 := (hSw.out q (by omega))
              have h2 := hwb.out _ (atR_lt h1).1
              obtain ⟨_, _, y, _, hy, hyM, _⟩ := ha'.pt (w' := w) hap (k := q) (by omega)
              have h3 := hdst.out.pos y rn hyM hrn
              have h4 : cell M (nth a q).toNat ((rn : Int)).toNat = cell M y rn := by rw [hy]; rfl
              unfold svN
              rw [h4]
              omega) (by omega)
            rw [h2]
            show (svX a rn q).length ≤ 3
            rw [svX, sortL_len, List.length_set]
            exact hak3)
        rw [hsum.out, hdcv.out] at hy
        rw [hsum.out] at hz
        have hat := hid ht.symm
        replace ht := hid ht
        replace hxx := hid hxx
        obtain ⟨T, hT⟩ : ∃ T, T = svT M P nx a rn s := ⟨_, rfl⟩
        rw [← hT] at hown hy hz hbl hbk ⊢
        replace hT := hid hT
        obtain ⟨bl, cst, bs⟩ := T
        simp only at hown hy hz hbl hbk ⊢
        obtain ⟨wt, hwt⟩ : ∃ y, y = nth nx t := ⟨_, rfl⟩
        rw [← hwt] at hcw hy hz hq1
        replace hwt := hid hwt
        obtain ⟨dc, hdc⟩ : ∃ y, y = nth (row M x) rn := ⟨_, rfl⟩
        rw [← hdc] at hcR hy hz hq2
        replace hdc := hid hdc
        obtain ⟨Rx, hRx⟩ : ∃ y, y = row M x := ⟨_, rfl⟩
        rw [← hRx] at hcM hiR hRl
        replace hRx := hid hRx
        obtain ⟨X, hX⟩ : ∃ X, X = svX a rn s := ⟨_, rfl⟩
        rw [← hX] at hy hz hmem hat hswi hmov hXl
        replace hX := hid hX
        have hbv : IsInts wo _ bl := hown.reads (by unfold Short; have := hbk.out; omega) hbl.out
        obtain ⟨db, nb, mb, rfl, hnb⟩ := own_formN hown
        have hs1 : IntKind.i64.wrap (wt + dc) = wt + dc := IntWalk.i64_in _ (by omega)
        go_wp2_with fail
        with_reducible refine (moved_any (w0 := w0) ha' hxa.out hri.out).mono ?_
        rw [hmov.out]
        rintro e w5 ⟨d5, m5, rfl, own5', e5⟩
        have own5 := own5'.mono hBo
        clear own5'
        have hB5 : B ≤ w5.heap.size := Nat.le_trans hBo e5.size
        have e05 : Ext w0 w5 := Ext.trans e0o e5
        have hU : IsInts w5 (.slice d5 a.length m5) X := own5.reads (by unfold Short; rw [hXl.out]; omega) hswi.out
        have hb5 := hbv.ext (w' := w5)
        have hSx := hid (show ∀ u, Ext w5 u → u.cell? ⟨bw, ow + t, none⟩ = some (.int .i64 wt) ∧ u.cell? ⟨bx, 0, none⟩ = some (.slice (some ⟨bM, oM, none⟩) M.length c1) ∧ u.cell? ⟨bM, oM + x, none⟩ = some (.slice (some ⟨bR, oR, none⟩) Rx.length mR) ∧ u.cell? ⟨bR, oR + rn, none⟩ = some (.int .i64 dc) from fun u e => ⟨(Ext.trans e5 e).cell hcw, (Ext.trans e5 e).cell x0q, (Ext.trans e5 e).cell hcM, (Ext.trans e5 e).cell hcR⟩)
        clear hcw x0q hca hcM hcR
        by_cases hl1 : wt + dc < bs
        · have hl1' : decide (wt + dc < bs) = true := decide_eq_true hl1
          have hyes := hid (hy.out (.inl hl1))
          clear hy hz
          go_wp2_with fail
          refine region_held_from (w0 := w5) (S := fun u => u.cell? ⟨bw, ow + t, none⟩ = some (.int .i64 wt) ∧ u.cell? ⟨bx, 0, none⟩ = some (.slice (some ⟨bM, oM, none⟩) M.length c1) ∧ u.cell? ⟨bM, oM + x, none⟩ = some (.slice (some ⟨bR, oR, none⟩) Rx.length mR) ∧ u.cell? ⟨bR, oR + rn, none⟩ = some (.int .i64 dc)) (by kernel_rfl) hSx.out (fun wd ed hHeld0 => ?_)
          refine wpAnyH_take (i := 0) (v := .slice (some ⟨bw, ow, none⟩) nx.length mw) rfl (by kernel_rfl) (by kernel_rfl) (by kernel_rfl) (fun _ _ _ h => h) (Or.inl ⟨by rfl, by intro wx hx; go_simp⟩) (by assumption) ?_
          try simp only [List.getElem_toArray, List.getElem_cons_zero, Act.put, List.setIfInBounds_toArray, List.set_cons_zero, List.set_cons_succ]
          refine wpAnyH_take (i := 1) (v := .pointer (some ⟨bx, 0, none⟩)) rfl (by kernel_rfl) (by kernel_rfl) (by kernel_rfl) (fun _ _ _ h => h) (Or.inl ⟨by rfl, by intro wx hx; go_simp⟩) (by assumption) ?_
          try simp only [List.getElem_toArray, List.getElem_cons_succ, List.getElem_cons_zero, Act.put, List.setIfInBounds_toArray, List.set_cons_zero, List.set_cons_succ]
          refine wpAnyH_take (i := 2) (v := .slice d5 a.length m5) rfl (by kernel_rfl) (by kernel_rfl) (by kernel_rfl) (fun _ _ _ h => h) (Or.inl ⟨by rfl, by intro wx hx; go_simp⟩) (by assumption) ?_
          try simp only [List.getElem_toArray, List.getElem_cons_succ, List.getElem_cons_zero, Act.put, List.setIfInBounds_toArray, List.set_cons_zero, List.set_cons_succ]
          refine wpAnyH_take (i := 6) (v := .pointer (some ⟨bx, 0, none⟩)) rfl (by kernel_rfl) (by kernel_rfl) (by kernel_rfl) (fun _ _ _ h => h) (Or.inl ⟨by rfl, by intro wx hx; go_simp⟩) (by assumption) ?_
          try simp only [List.getElem_toArray, List.getElem_cons_succ, List.getElem_cons_zero, Act.put, List.setIfInBounds_toArray, List.set_cons_zero, List.set_cons_succ]
          refine wpAnyH_take (i := 7) (v := .pointer (some ⟨bx, 0, none⟩)) rfl (by kernel_rfl) (by kernel_rfl) (by kernel_rfl) (fun _ _ _ h => h) (Or.inl ⟨by rfl, by intro wx hx; go_simp⟩) (by assumption) ?_
          try simp only [List.getElem_toArray, List.getElem_cons_succ, List.getElem_cons_zero, Act.put, List.setIfInBounds_toArray, List.set_cons_zero, List.set_cons_succ]
          refine wpAnyH_take (i := 8) (v := .pointer (some ⟨bx, 0, none⟩)) rfl (by kernel_rfl) (by kernel_rfl) (by kernel_rfl) (fun _ _ _ h => h) (Or.inl ⟨by rfl, by intro wx hx; go_simp⟩) (by assumption) ?_
          try simp only [List.getElem_toArray, List.getElem_cons_succ, List.getElem_cons_zero, Act.put, List.setIfInBounds_toArray, List.set_cons_zero, List.set_cons_succ]
          refine wpAnyH_take (i := 9) (v := .pointer (some ⟨bx, 0, none⟩)) rfl (by kernel_rfl) (by kernel_rfl) (by kernel_rfl) (fun _ _ _ h => h) (Or.inl ⟨by rfl, by intro wx hx; go_simp⟩) (by assumption) ?_
          try simp only [List.getElem_toArray, List.getElem_cons_succ, List.getElem_cons_zero, Act.put, List.setIfInBounds_toArray, List.set_cons_zero, List.set_cons_succ]
          refine wpAnyH_take (i := 10) (v := .slice (some ⟨bM, oM, none⟩) M.length c1) rfl (by kernel_rfl) (by kernel_rfl) (by kernel_rfl) (fun _ _ _ h => h) (Or.inl ⟨by rfl, by intro wx hx; obtain ⟨_, _, _, _⟩ := hx; go_simp⟩) (by assumption) ?_
          try simp only [List.getElem_toArray, List.getElem_cons_succ, List.getElem_cons_zero, Act.put, List.setIfInBounds_toArray, List.set_cons_zero, List.set_cons_succ]
          refine wpAnyH_take (i := 11) (v := .int .i64 x) rfl (by kernel_rfl) (by kernel_rfl) (by kernel_rfl) (fun _ _ _ h => h) (Or.inl ⟨by rfl, by intro wx hx; go_simp⟩) (by assumption) ?_
          try simp only [List.getElem_toArray, List.getElem_cons_succ, List.getElem_cons_zero, Act.put, List.setIfInBounds_toArray, List.set_cons_zero, List.set_cons_succ]
          refine wpAnyH_take (i := 12) (v := .pointer (some ⟨bM, oM + x, none⟩)) rfl (by kernel_rfl) (by kernel_rfl) (by kernel_rfl) (fun _ _ _ h => h) (Or.inl ⟨by rfl, by intro wx hx; go_simp⟩) (by assumption) ?_
          try simp only [List.getElem_toArray, List.getElem_cons_succ, List.getElem_cons_zero, Act.put, List.setIfInBounds_toArray, List.set_cons_zero, List.set_cons_succ]
          refine wpAnyH_take (i := 13) (v := .slice (some ⟨bR, oR, none⟩) Rx.length mR) rfl (by kernel_rfl) (by kernel_rfl) (by kernel_rfl) (fun _ _ _ h => h) (Or.inl ⟨by rfl, by intro wx hx; obtain ⟨_, _, _, _⟩ := hx; go_simp⟩) (by assumption) ?_
          try simp only [List.getElem_toArray, List.getElem_cons_succ, List.getElem_cons_zero, Act.put, List.setIfInBounds_toArray, List.set_cons_zero, List.set_cons_succ]
          refine wpAnyH_take (i := 14) (v := .int .i64 rn) rfl (by kernel_rfl) (by kernel_rfl) (by kernel_rfl) (fun _ _ _ h => h) (Or.inl ⟨by rfl, by intro wx hx; go_simp⟩) (by assumption) ?_
          try simp only [List.getElem_toArray, List.getElem_cons_succ, List.getElem_cons_zero, Act.put, List.setIfInBounds_toArray, List.set_cons_zero, List.set_cons_succ]
          refine wpAnyH_take (i := 15) (v := .pointer (some ⟨bR, oR + rn, none⟩)) rfl (by kernel_rfl) (by kernel_rfl) (by kernel_rfl) (fun _ _ _ h => h) (Or.inl ⟨by rfl, by intro wx hx; go_simp⟩) (by assumption) ?_
          try simp only [List.getElem_toArray, List.getElem_cons_succ, List.getElem_cons_zero, Act.put, List.setIfInBounds_toArray, List.set_cons_zero, List.set_cons_succ]
          refine wpAnyH_take (i := 16) (v := .int .i64 dc) rfl (by kernel_rfl) (by kernel_rfl) (by kernel_rfl) (fun _ _ _ h => h) (Or.inl ⟨by rfl, by intro wx hx; obtain ⟨_, _, _, _⟩ := hx; go_simp⟩) (by assumption) ?_
          try simp only [List.getElem_toArray, List.getElem_cons_succ, List.getElem_cons_zero, Act.put, List.setIfInBounds_toArray, List.set_cons_zero, List.set_cons_succ]
          refine wpAnyH_ready (rs := [3]) (by kernel_rfl) (by simp) ?_
          refine AllReadyH.cons rfl (fun K hK => ?_) AllReadyH.nil
          go_simp
          go_at_call 79
          refine (index_any (w0 := wd) (w := wd) (hW'.ext (e := Ext.trans e05 ed)) (hU.ext (e := ed)) hasc.out hmem.out (by omega)).mono ?_
          rw [hat.out]
          rintro e w6 ⟨rfl, rfl⟩
          have hS6 := hSx.out wd ed
          go_wp2_with fail
          refine hK.out _ _ hS6 (fun _ => ?_)
          clear hK K
          try simp only [List.getElem_toArray, List.getElem_cons_succ, List.getElem_cons_zero, Act.put, List.setIfInBounds_toArray, List.set_cons_zero, List.set_cons_succ]
          refine wpAnyH_take (i := 4) (v := .pointer (some ⟨bw, ow + t, none⟩)) rfl (by kernel_rfl) (by kernel_rfl) (by kernel_rfl) (fun _ _ _ h => h) (Or.inl ⟨by rfl, by intro wx hx; go_simp⟩) (by assumption) ?_
          try simp only [List.getElem_toArray, List.getElem_cons_succ, List.getElem_cons_zero, Act.put, List.setIfInBounds_toArray, List.set_cons_zero, List.set_cons_succ]
          refine wpAnyH_take (i := 5) (v := .int .i64 wt) rfl (by kernel_rfl) (by kernel_rfl) (by kernel_rfl) (fun _ _ _ h => h) (Or.inl ⟨by rfl, by intro wx hx; obtain ⟨_, _, _, _⟩ := hx; go_simp⟩) (by assumption) ?_
          try simp only [List.getElem_toArray, List.getElem_cons_succ, List.getElem_cons_zero, Act.put, List.setIfInBounds_toArray, List.set_cons_zero, List.set_cons_succ]
          refine wpAnyH_take (i := 17) (v := .int .i64 (wt + dc)) rfl (by kernel_rfl) (by kernel_rfl) (by kernel_rfl) (fun _ _ _ h => h) (Or.inl ⟨by rfl, by intro wx hx; go_simp⟩) (by assumption) ?_
          try simp only [List.getElem_toArray, List.getElem_cons_succ, List.getElem_cons_zero, Act.put, List.setIfInBounds_toArray, List.set_cons_zero, List.set_cons_succ]
          refine wpAnyH_take (i := 18) (v := .int .i64 (wt + dc)) rfl (by kernel_rfl) (by kernel_rfl) (by kernel_rfl) (fun _ _ _ h => h) (Or.inl ⟨by rfl, by intro wx hx; go_simp⟩) (by assumption) ?_
          try simp only [List.getElem_toArray, List.getElem_cons_succ, List.getElem_cons_zero, Act.put, List.setIfInBounds_toArray, List.set_cons_zero, List.set_cons_succ]
          refine wpAnyH_done (by kernel_rfl) ?_ _
          obtain ⟨k1, k2, k3, k4⟩ := hS6
          have hbd : Below B w wd := (hb.trans (e5.below.mono hBo)).trans (ed.below.mono hB5)
          have own6 := own5.ext (w' := wd)
          have ob6 := (hown.ext (w' := w5)).ext (w' := wd)
          go_wp2_with (go_quiet (fail))
          go_roundw
          case rel => exact ⟨s + 1, by omega, by go_num, by rw [hyes.out.2.2], by rw [hyes.out.2.1], by rw [hyes.out.1]; exact own6.ext, ext_below hbd (Nat.le_trans hB5 ed.size)⟩
          case measure => simp [intOf]; omega
        · have hl1' : decide (wt + dc < bs) = false := decide_eq_false hl1
          by_cases hl2 : wt + dc = bs
          · have hl2' : (wt + dc == bs) = true := by simpa using hl2
            cases hlx : decide (lexC X bl < 0) with
            | true =>
              have hyes := hid (hy.out (.inr ⟨hl2, of_decide_eq_true hlx⟩))
              have hlx2 : lexC X bl < 0 := of_decide_eq_true hlx
              clear hy hz
              replace hl2 := hid hl2
              go_wp2_with fail
              refine region_held_from (w0 := w5) (S := fun u => u.cell? ⟨bw, ow + t, none⟩ = some (.int .i64 wt) ∧ u.cell? ⟨bx, 0, none⟩ = some (.slice (some ⟨bM, oM, none⟩) M.length c1) ∧ u.cell? ⟨bM, oM + x, none⟩ = some (.slice (some ⟨bR, oR, none⟩) Rx.length mR) ∧ u.cell? ⟨bR, oR + rn, none⟩ = some (.int .i64 dc)) (by kernel_rfl) hSx.out (fun wd ed hHeld0 => ?_)
              refine wpAnyH_take (i := 0) (v := .slice (some ⟨bw, ow, none⟩) nx.length mw) rfl (by kernel_rfl) (by kernel_rfl) (by kernel_rfl) (fun _ _ _ h => h) (Or.inl ⟨by rfl, by intro wx hx; go_simp⟩) (by assumption) ?_
              try simp only [List.getElem_toArray, List.getElem_cons_zero, Act.put, List.setIfInBounds_toArray, List.set_cons_zero, List.set_cons_succ]
              refine wpAnyH_take (i := 1) (v := .pointer (some ⟨bx, 0, none⟩)) rfl (by kernel_rfl) (by kernel_rfl) (by kernel_rfl) (fun _ _ _ h => h) (Or.inl ⟨by rfl, by intro wx hx; go_simp⟩) (by assumption) ?_
              try simp only [List.getElem_toArray, List.getElem_cons_succ, List.getElem_cons_zero, Act.put, List.setIfInBounds_toArray, List.set_cons_zero, List.set_cons_succ]
              refine wpAnyH_take (i := 2) (v := .slice d5 a.length m5) rfl (by kernel_rfl) (by kernel_rfl) (by kernel_rfl) (fun _ _ _ h => h) (Or.inl ⟨by rfl, by intro wx hx; go_simp⟩) (by assumption) ?_
              try simp only [List.getElem_toArray, List.getElem_cons_succ, List.getElem_cons_zero, Act.put, List.setIfInBounds_toArray, List.set_cons_zero, List.set_cons_succ]
              refine wpAnyH_take (i := 6) (v := .pointer (some ⟨bx, 0, none⟩)) rfl (by kernel_rfl) (by kernel_rfl) (by kernel_rfl) (fun _ _ _ h => h) (Or.inl ⟨by rfl, by intro wx hx; go_simp⟩) (by assumption) ?_
              try simp only [List.getElem_toArray, List.getElem_cons_succ, List.getElem_cons_zero, Act.put, List.setIfInBounds_toArray, List.set_cons_zero, List.set_cons_succ]
              refine wpAnyH_take (i := 7) (v := .pointer (some ⟨bx, 0, none⟩)) rfl (by kernel_rfl) (by kernel_rfl) (by kernel_rfl) (fun _ _ _ h => h) (Or.inl ⟨by rfl, by intro wx hx; go_simp⟩) (by assumption) ?_
              try simp only [List.getElem_toArray, List.getElem_cons_succ, List.getElem_cons_zero, Act.put, List.setIfInBounds_toArray, List.set_cons_zero, List.set_cons_succ]
              refine wpAnyH_take (i := 8) (v := .pointer (some ⟨bx, 0, none⟩)) rfl (by kernel_rfl) (by kernel_rfl) (by kernel_rfl) (fun _ _ _ h => h) (Or.inl ⟨by rfl, by intro wx hx; go_simp⟩) (by assumption) ?_
              try simp only [List.getElem_toArray, List.getElem_cons_succ, List.getElem_cons_zero, Act.put, List.setIfInBounds_toArray, List.set_cons_zero, List.set_cons_succ]
              refine wpAnyH_take (i := 9) (v := .pointer (some ⟨bx, 0, none⟩)) rfl (by kernel_rfl) (by kernel_rfl) (by kernel_rfl) (fun _ _ _ h => h) (Or.inl ⟨by rfl, by intro wx hx; go_simp⟩) (by assumption) ?_
              try simp only [List.getElem_toArray, List.getElem_cons_succ, List.getElem_cons_zero, Act.put, List.setIfInBounds_toArray, List.set_cons_zero, List.set_cons_succ]
              refine wpAnyH_take (i := 10) (v := .slice (some ⟨bM, oM, none⟩) M.length c1) rfl (by kernel_rfl) (by kernel_rfl) (by kernel_rfl) (fun _ _ _ h => h) (Or.inl ⟨by rfl, by intro wx hx; obtain ⟨_, _, _, _⟩ := hx; go_simp⟩) (by assumption) ?_
              try simp only [List.getElem_toArray, List.getElem_cons_succ, List.getElem_cons_zero, Act.put, List.setIfInBounds_toArray, List.set_cons_zero, List.set_cons_succ]
              refine wpAnyH_take (i := 11) (v := .int .i64 x) rfl (by kernel_rfl) (by kernel_rfl) (by kernel_rfl) (fun _ _ _ h => h) (Or.inl ⟨by rfl, by intro wx hx; go_simp⟩) (by assumption) ?_
              try simp only [List.getElem_toArray, List.getElem_cons_succ, List.getElem_cons_zero, Act.put, List.setIfInBounds_toArray, List.set_cons_zero, List.set_cons_succ]
              refine wpAnyH_take (i := 12) (v := .pointer (some ⟨bM, oM + x, none⟩)) rfl (by kernel_rfl) (by kernel_rfl) (by kernel_rfl) (fun _ _ _ h => h) (Or.inl ⟨by rfl, by intro wx hx; go_simp⟩) (by assumption) ?_
              try simp only [List.getElem_toArray, List.getElem_cons_succ, List.getElem_cons_zero, Act.put, List.setIfInBounds_toArray, List.set_cons_zero, List.set_cons_succ]
              refine wpAnyH_take (i := 13) (v := .slice (some ⟨bR, oR, none⟩) Rx.length mR) rfl (by kernel_rfl) (by kernel_rfl) (by kernel_rfl) (fun _ _ _ h => h) (Or.inl ⟨by rfl, by intro wx hx; obtain ⟨_, _, _, _⟩ := hx; go_simp⟩) (by assumption) ?_
              try simp only [List.getElem_toArray, List.getElem_cons_succ, List.getElem_cons_zero, Act.put, List.setIfInBounds_toArray, List.set_cons_zero, List.set_cons_succ]
              refine wpAnyH_take (i := 14) (v := .int .i64 rn) rfl (by kernel_rfl) (by kernel_rfl) (by kernel_rfl) (fun _ _ _ h => h) (Or.inl ⟨by rfl, by intro wx hx; go_simp⟩) (by assumption) ?_
              try simp only [List.getElem_toArray, List.getElem_cons_succ, List.getElem_cons_zero, Act.put, List.setIfInBounds_toArray, List.set_cons_zero, List.set_cons_succ]
              refine wpAnyH_take (i := 15) (v := .pointer (some ⟨bR, oR + rn, none⟩)) rfl (by kernel_rfl) (by kernel_rfl) (by kernel_rfl) (fun _ _ _ h => h) (Or.inl ⟨by rfl, by intro wx hx; go_simp⟩) (by assumption) ?_
              try simp only [List.getElem_toArray, List.getElem_cons_succ, List.getElem_cons_zero, Act.put, List.setIfInBounds_toArray, List.set_cons_zero, List.set_cons_succ]
              refine wpAnyH_take (i := 16) (v := .int .i64 dc) rfl (by kernel_rfl) (by kernel_rfl) (by kernel_rfl) (fun _ _ _ h => h) (Or.inl ⟨by rfl, by intro wx hx; obtain ⟨_, _, _, _⟩ := hx; go_simp⟩) (by assumption) ?_
              try simp only [List.getElem_toArray, List.getElem_cons_succ, List.getElem_cons_zero, Act.put, List.setIfInBounds_toArray, List.set_cons_zero, List.set_cons_succ]
              refine wpAnyH_ready (rs := [3]) (by kernel_rfl) (by simp) ?_
              refine AllReadyH.cons rfl (fun K hK => ?_) AllReadyH.nil
              go_simp
              go_at_call 79
              refine (index_any (w0 := wd) (w := wd) (hW'.ext (e := Ext.trans e05 ed)) (hU.ext (e := ed)) hasc.out hmem.out (by omega)).mono ?_
              rw [hat.out]
              rintro e w6 ⟨rfl, rfl⟩
              have hS6 := hSx.out wd ed
              go_wp2_with fail
              refine hK.out _ _ hS6 (fun _ => ?_)
              clear hK K
              try simp only [List.getElem_toArray, List.getElem_cons_succ, List.getElem_cons_zero, Act.put, List.setIfInBounds_toArray, List.set_cons_zero, List.set_cons_succ]
              refine wpAnyH_take (i := 4) (v := .pointer (some ⟨bw, ow + t, none⟩)) rfl (by kernel_rfl) (by kernel_rfl) (by kernel_rfl) (fun _ _ _ h => h) (Or.inl ⟨by rfl, by intro wx hx; go_simp⟩) (by assumption) ?_
              try simp only [List.getElem_toArray, List.getElem_cons_succ, List.getElem_cons_zero, Act.put, List.setIfInBounds_toArray, List.set_cons_zero, List.set_cons_succ]
              refine wpAnyH_take (i := 5) (v := .int .i64 wt) rfl (by kernel_rfl) (by kernel_rfl) (by kernel_rfl) (fun _ _ _ h => h) (Or.inl ⟨by rfl, by intro wx hx; obtain ⟨_, _, _, _⟩ := hx; go_simp⟩) (by assumption) ?_
              try simp only [List.getElem_toArray, List.getElem_cons_succ, List.getElem_cons_zero, Act.put, List.setIfInBounds_toArray, List.set_cons_zero, List.set_cons_succ]
              refine wpAnyH_take (i := 17) (v := .int .i64 (wt + dc)) rfl (by kernel_rfl) (by kernel_rfl) (by kernel_rfl) (fun _ _ _ h => h) (Or.inl ⟨by rfl, by intro wx hx; go_simp⟩) (by assumption) ?_
              try simp only [List.getElem_toArray, List.getElem_cons_succ, List.getElem_cons_zero, Act.put, List.setIfInBounds_toArray, List.set_cons_zero, List.set_cons_succ]
              refine wpAnyH_take (i := 18) (v := .int .i64 (wt + dc)) rfl (by kernel_rfl) (by kernel_rfl) (by kernel_rfl) (fun _ _ _ h => h) (Or.inl ⟨by rfl, by intro wx hx; go_simp⟩) (by assumption) ?_
              try simp only [List.getElem_toArray, List.getElem_cons_succ, List.getElem_cons_zero, Act.put, List.setIfInBounds_toArray, List.set_cons_zero, List.set_cons_succ]
              refine wpAnyH_done (by kernel_rfl) ?_ _
              obtain ⟨k1, k2, k3, k4⟩ := hS6
              have hbd : Below B w wd := (hb.trans (e5.below.mono hBo)).trans (ed.below.mono hB5)
              have own6 := own5.ext (w' := wd)
              have ob6 := (hown.ext (w' := w5)).ext (w' := wd)
              go_wp2_with fail
              with_reducible refine (sCompare_any (w0 := w5) hU hb5).mono ?_
              rintro e w7 ⟨rfl, rfl⟩
              go_wp2_with (go_quiet (fail))
              go_roundw
              case rel => exact ⟨s + 1, by omega, by go_num, by rw [hyes.out.2.2], by rw [hyes.out.2.1], by rw [hyes.out.1]; exact own6.ext, ext_below hbd (Nat.le_trans hB5 ed.size)⟩
              case measure => simp [intOf]; omega
            | false =>
              have hno := hid (hz.out (by rintro (h | ⟨_, h⟩); omega; exact of_decide_eq_false hlx h))
              have hlx2 : ¬ lexC X bl < 0 := of_decide_eq_false hlx
              clear hy hz
              replace hl2 := hid hl2
              go_wp2_with fail
              refine region_held_from (w0 := w5) (S := fun u => u.cell? ⟨bw, ow + t, none⟩ = some (.int .i64 wt) ∧ u.cell? ⟨bx, 0, none⟩ = some (.slice (some ⟨bM, oM, none⟩) M.length c1) ∧ u.cell? ⟨bM, oM + x, none⟩ = some (.slice (some ⟨bR, oR, none⟩) Rx.length mR) ∧ u.cell? ⟨bR, oR + rn, none⟩ = some (.int .i64 dc)) (by kernel_rfl) hSx.out (fun wd ed hHeld0 => ?_)
              refine wpAnyH_take (i := 0) (v := .slice (some ⟨bw, ow, none⟩) nx.length mw) rfl (by kernel_rfl) (by kernel_rfl) (by kernel_rfl) (fun _ _ _ h => h) (Or.inl ⟨by rfl, by intro wx hx; go_simp⟩) (by assumption) ?_
              try simp only [List.getElem_toArray, List.getElem_cons_zero, Act.put, List.setIfInBounds_toArray, List.set_cons_zero, List.set_cons_succ]
              refine wpAnyH_take (i := 1) (v := .pointer (some ⟨bx, 0, none⟩)) rfl (by kernel_rfl) (by kernel_rfl) (by kernel_rfl) (fun _ _ _ h => h) (Or.inl ⟨by rfl, by intro wx hx; go_simp⟩) (by assumption) ?_
              try simp only [List.getElem_toArray, List.getElem_cons_succ, List.getElem_cons_zero, Act.put, List.setIfInBounds_toArray, List.set_cons_zero, List.set_cons_succ]
              refine wpAnyH_take (i := 2) (v := .slice d5 a.length m5) rfl (by kernel_rfl) (by kernel_rfl) (by kernel_rfl) (fun _ _ _ h => h) (Or.inl ⟨by rfl, by intro wx hx; go_simp⟩) (by assumption) ?_
              try simp only [List.getElem_toArray, List.getElem_cons_succ, List.getElem_cons_zero, Act.put, List.setIfInBounds_toArray, List.set_cons_zero, List.set_cons_succ]
              refine wpAnyH_take (i := 6) (v := .pointer (some ⟨bx, 0, none⟩)) rfl (by kernel_rfl) (by kernel_rfl) (by kernel_rfl) (fun _ _ _ h => h) (Or.inl ⟨by rfl, by intro wx hx; go_simp⟩) (by assumption) ?_
              try simp only [List.getElem_toArray, List.getElem_cons_succ, List.getElem_cons_zero, Act.put, List.setIfInBounds_toArray, List.set_cons_zero, List.set_cons_succ]
              refine wpAnyH_take (i := 7) (v := .pointer (some ⟨bx, 0, none⟩)) rfl (by kernel_rfl) (by kernel_rfl) (by kernel_rfl) (fun _ _ _ h => h) (Or.inl ⟨by rfl, by intro wx hx; go_simp⟩) (by assumption) ?_
              try simp only [List.getElem_toArray, List.getElem_cons_succ, List.getElem_cons_zero, Act.put, List.setIfInBounds_toArray, List.set_cons_zero, List.set_cons_succ]
              refine wpAnyH_take (i := 8) (v := .pointer (some ⟨bx, 0, none⟩)) rfl (by kernel_rfl) (by kernel_rfl) (by kernel_rfl) (fun _ _ _ h => h) (Or.inl ⟨by rfl, by intro wx hx; go_simp⟩) (by assumption) ?_
              try simp only [List.getElem_toArray, List.getElem_cons_succ, List.getElem_cons_zero, Act.put, List.setIfInBounds_toArray, List.set_cons_zero, List.set_cons_succ]
              refine wpAnyH_take (i := 9) (v := .pointer (some ⟨bx, 0, none⟩)) rfl (by kernel_rfl) (by kernel_rfl) (by kernel_rfl) (fun _ _ _ h => h) (Or.inl ⟨by rfl, by intro wx hx; go_simp⟩) (by assumption) ?_
              try simp only [List.getElem_toArray, List.getElem_cons_succ, List.getElem_cons_zero, Act.put, List.setIfInBounds_toArray, List.set_cons_zero, List.set_cons_succ]
              refine wpAnyH_take (i := 10) (v := .slice (some ⟨bM, oM, none⟩) M.length c1) rfl (by kernel_rfl) (by kernel_rfl) (by kernel_rfl) (fun _ _ _ h => h) (Or.inl ⟨by rfl, by intro wx hx; obtain ⟨_, _, _, _⟩ := hx; go_simp⟩) (by assumption) ?_
              try simp only [List.getElem_toArray, List.getElem_cons_succ, List.getElem_cons_zero, Act.put, List.setIfInBounds_toArray, List.set_cons_zero, List.set_cons_succ]
              refine wpAnyH_take (i := 11) (v := .int .i64 x) rfl (by kernel_rfl) (by kernel_rfl) (by kernel_rfl) (fun _ _ _ h => h) (Or.inl ⟨by rfl, by intro wx hx; go_simp⟩) (by assumption) ?_
              try simp only [List.getElem_toArray, List.getElem_cons_succ, List.getElem_cons_zero, Act.put, List.setIfInBounds_toArray, List.set_cons_zero, List.set_cons_succ]
              refine wpAnyH_take (i := 12) (v := .pointer (some ⟨bM, oM + x, none⟩)) rfl (by kernel_rfl) (by kernel_rfl) (by kernel_rfl) (fun _ _ _ h => h) (Or.inl ⟨by rfl, by intro wx hx; go_simp⟩) (by assumption) ?_
              try simp only [List.getElem_toArray, List.getElem_cons_succ, List.getElem_cons_zero, Act.put, List.setIfInBounds_toArray, List.set_cons_zero, List.set_cons_succ]
              refine wpAnyH_take (i := 13) (v := .slice (some ⟨bR, oR, none⟩) Rx.length mR) rfl (by kernel_rfl) (by kernel_rfl) (by kernel_rfl) (fun _ _ _ h => h) (Or.inl ⟨by rfl, by intro wx hx; obtain ⟨_, _, _, _⟩ := hx; go_simp⟩) (by assumption) ?_
              try simp only [List.getElem_toArray, List.getElem_cons_succ, List.getElem_cons_zero, Act.put, List.setIfInBounds_toArray, List.set_cons_zero, List.set_cons_succ]
              refine wpAnyH_take (i := 14) (v := .int .i64 rn) rfl (by kernel_rfl) (by kernel_rfl) (by kernel_rfl) (fun _ _ _ h => h) (Or.inl ⟨by rfl, by intro wx hx; go_simp⟩) (by assumption) ?_
              try simp only [List.getElem_toArray, List.getElem_cons_succ, List.getElem_cons_zero, Act.put, List.setIfInBounds_toArray, List.set_cons_zero, List.set_cons_succ]
              refine wpAnyH_take (i := 15) (v := .pointer (some ⟨bR, oR + rn, none⟩)) rfl (by kernel_rfl) (by kernel_rfl) (by kernel_rfl) (fun _ _ _ h => h) (Or.inl ⟨by rfl, by intro wx hx; go_simp⟩) (by assumption) ?_
              try simp only [List.getElem_toArray, List.getElem_cons_succ, List.getElem_cons_zero, Act.put, List.setIfInBounds_toArray, List.set_cons_zero, List.set_cons_succ]
              refine wpAnyH_take (i := 16) (v := .int .i64 dc) rfl (by kernel_rfl) (by kernel_rfl) (by kernel_rfl) (fun _ _ _ h => h) (Or.inl ⟨by rfl, by intro wx hx; obtain ⟨_, _, _, _⟩ := hx; go_simp⟩) (by assumption) ?_
              try simp only [List.getElem_toArray, List.getElem_cons_succ, List.getElem_cons_zero, Act.put, List.setIfInBounds_toArray, List.set_cons_zero, List.set_cons_succ]
              refine wpAnyH_ready (rs := [3]) (by kernel_rfl) (by simp) ?_
              refine AllReadyH.cons rfl (fun K hK => ?_) AllReadyH.nil
              go_simp
              go_at_call 79
              refine (index_any (w0 := wd) (w := wd) (hW'.ext (e := Ext.trans e05 ed)) (hU.ext (e := ed)) hasc.out hmem.out (by omega)).mono ?_
              rw [hat.out]
              rintro e w6 ⟨rfl, rfl⟩
              have hS6 := hSx.out wd ed
              go_wp2_with fail
              refine hK.out _ _ hS6 (fun _ => ?_)
              clear hK K
              try simp only [List.getElem_toArray, List.getElem_cons_succ, List.getElem_cons_zero, Act.put, List.setIfInBounds_toArray, List.set_cons_zero, List.set_cons_succ]
              refine wpAnyH_take (i := 4) (v := .pointer (some ⟨bw, ow + t, none⟩)) rfl (by kernel_rfl) (by kernel_rfl) (by kernel_rfl) (fun _ _ _ h => h) (Or.inl ⟨by rfl, by intro wx hx; go_simp⟩) (by assumption) ?_
              try simp only [List.getElem_toArray, List.getElem_cons_succ, List.getElem_cons_zero, Act.put, List.setIfInBounds_toArray, List.set_cons_zero, List.set_cons_succ]
              refine wpAnyH_take (i := 5) (v := .int .i64 wt) rfl (by kernel_rfl) (by kernel_rfl) (by kernel_rfl) (fun _ _ _ h => h) (Or.inl ⟨by rfl, by intro wx hx; obtain ⟨_, _, _, _⟩ := hx; go_simp⟩) (by assumption) ?_
              try simp only [List.getElem_toArray, List.getElem_cons_succ, List.getElem_cons_zero, Act.put, List.setIfInBounds_toArray, List.set_cons_zero, List.set_cons_succ]
              refine wpAnyH_take (i := 17) (v := .int .i64 (wt + dc)) rfl (by kernel_rfl) (by kernel_rfl) (by kernel_rfl) (fun _ _ _ h => h) (Or.inl ⟨by rfl, by intro wx hx; go_simp⟩) (by assumption) ?_
              try simp only [List.getElem_toArray, List.getElem_cons_succ, List.getElem_cons_zero, Act.put, List.setIfInBounds_toArray, List.set_cons_zero, List.set_cons_succ]
              refine wpAnyH_take (i := 18) (v := .int .i64 (wt + dc)) rfl (by kernel_rfl) (by kernel_rfl) (by kernel_rfl) (fun _ _ _ h => h) (Or.inl ⟨by rfl, by intro wx hx; go_simp⟩) (by assumption) ?_
              try simp only [List.getElem_toArray, List.getElem_cons_succ, List.getElem_cons_zero, Act.put, List.setIfInBounds_toArray, List.set_cons_zero, List.set_cons_succ]
              refine wpAnyH_done (by kernel_rfl) ?_ _
              obtain ⟨k1, k2, k3, k4⟩ := hS6
              have hbd : Below B w wd := (hb.trans (e5.below.mono hBo)).trans (ed.below.mono hB5)
              have own6 := own5.ext (w' := wd)
              have ob6 := (hown.ext (w' := w5)).ext (w' := wd)
              go_wp2_with fail
              with_reducible refine (sCompare_any (w0 := w5) hU hb5).mono ?_
              rintro e w7 ⟨rfl, rfl⟩
              go_wp2_with fail
              go_roundw
              case rel => exact ⟨s + 1, by omega, by go_num, by rw [hno.out], by rw [hno.out], by rw [hno.out]; exact ob6, hbd⟩
              case measure => simp [intOf]; omega
          · have hl2' : (wt + dc == bs) = false := by simpa using hl2
            have hno := hid (hz.out (by rintro (h | ⟨h, _⟩); omega; exact hl2 h))
            clear hy hz
            replace hl2 := hid hl2
            go_wp2_with fail
            refine region_held_from (w0 := w5) (S := fun u => u.cell? ⟨bw, ow + t, none⟩ = some (.int .i64 wt) ∧ u.cell? ⟨bx, 0, none⟩ = some (.slice (some ⟨bM, oM, none⟩) M.length c1) ∧ u.cell? ⟨bM, oM + x, none⟩ = some (.slice (some ⟨bR, oR, none⟩) Rx.length mR) ∧ u.cell? ⟨bR, oR + rn, none⟩ = some (.int .i64 dc)) (by kernel_rfl) hSx.out (fun wd ed hHeld0 => ?_)
            refine wpAnyH_take (i := 0) (v := .slice (some ⟨bw, ow, none⟩) nx.length mw) rfl (by kernel_rfl) (by kernel_rfl) (by kernel_rfl) (fun _ _ _ h => h) (Or.inl ⟨by rfl, by intro wx hx; go_simp⟩) (by assumption) ?_
            try simp only [List.getElem_toArray, List.getElem_cons_zero, Act.put, List.setIfInBounds_toArray, List.set_cons_zero, List.set_cons_succ]
            refine wpAnyH_take (i := 1) (v := .pointer (some ⟨bx, 0, none⟩)) rfl (by kernel_rfl) (by kernel_rfl) (by kernel_rfl) (fun _ _ _ h => h) (Or.inl ⟨by rfl, by intro wx hx; go_simp⟩) (by assumption) ?_
            try simp only [List.getElem_toArray, List.getElem_cons_succ, List.getElem_cons_zero, Act.put, List.setIfInBounds_toArray, List.set_cons_zero, List.set_cons_succ]
            refine wpAnyH_take (i := 2) (v := .slice d5 a.length m5) rfl (by kernel_rfl) (by kernel_rfl) (by kernel_rfl) (fun _ _ _ h => h) (Or.inl ⟨by rfl, by intro wx hx; go_simp⟩) (by assumption) ?_
            try simp only [List.getElem_toArray, List.getElem_cons_succ, List.getElem_cons_zero, Act.put, List.setIfInBounds_toArray, List.set_cons_zero, List.set_cons_succ]
            refine wpAnyH_take (i := 6) (v := .pointer (some ⟨bx, 0, none⟩)) rfl (by kernel_rfl) (by kernel_rfl) (by kernel_rfl) (fun _ _ _ h => h) (Or.inl ⟨by rfl, by intro wx hx; go_simp⟩) (by assumption) ?_
            try simp only [List.getElem_toArray, List.getElem_cons_succ, List.getElem_cons_zero, Act.put, List.setIfInBounds_toArray, List.set_cons_zero, List.set_cons_succ]
            refine wpAnyH_take (i := 7) (v := .pointer (some ⟨bx, 0, none⟩)) rfl (by kernel_rfl) (by kernel_rfl) (by kernel_rfl) (fun _ _ _ h => h) (Or.inl ⟨by rfl, by intro wx hx; go_simp⟩) (by assumption) ?_
            try simp only [List.getElem_toArray, List.getElem_cons_succ, List.getElem_cons_zero, Act.put, List.setIfInBounds_toArray, List.set_cons_zero, List.set_cons_succ]
            refine wpAnyH_take (i := 8) (v := .pointer (some ⟨bx, 0, none⟩)) rfl (by kernel_rfl) (by kernel_rfl) (by kernel_rfl) (fun _ _ _ h => h) (Or.inl ⟨by rfl, by intro wx hx; go_simp⟩) (by assumption) ?_
            try simp only [List.getElem_toArray, List.getElem_cons_succ, List.getElem_cons_zero, Act.put, List.setIfInBounds_toArray, List.set_cons_zero, List.set_cons_succ]
            refine wpAnyH_take (i := 9) (v := .pointer (some ⟨bx, 0, none⟩)) rfl (by kernel_rfl) (by kernel_rfl) (by kernel_rfl) (fun _ _ _ h => h) (Or.inl ⟨by rfl, by intro wx hx; go_simp⟩) (by assumption) ?_
            try simp only [List.getElem_toArray, List.getElem_cons_succ, List.getElem_cons_zero, Act.put, List.setIfInBounds_toArray, List.set_cons_zero, List.set_cons_succ]
            refine wpAnyH_take (i := 10) (v := .slice (some ⟨bM, oM, none⟩) M.length c1) rfl (by kernel_rfl) (by kernel_rfl) (by kernel_rfl) (fun _ _ _ h => h) (Or.inl ⟨by rfl, by intro wx hx; obtain ⟨_, _, _, _⟩ := hx; go_simp⟩) (by assumption) ?_
            try simp only [List.getElem_toArray, List.getElem_cons_succ, List.getElem_cons_zero, Act.put, List.setIfInBounds_toArray, List.set_cons_zero, List.set_cons_succ]
            refine wpAnyH_take (i := 11) (v := .int .i64 x) rfl (by kernel_rfl) (by kernel_rfl) (by kernel_rfl) (fun _ _ _ h => h) (Or.inl ⟨by rfl, by intro wx hx; go_simp⟩) (by assumption) ?_
            try simp only [List.getElem_toArray, List.getElem_cons_succ, List.getElem_cons_zero, Act.put, List.setIfInBounds_toArray, List.set_cons_zero, List.set_cons_succ]
            refine wpAnyH_take (i := 12) (v := .pointer (some ⟨bM, oM + x, none⟩)) rfl (by kernel_rfl) (by kernel_rfl) (by kernel_rfl) (fun _ _ _ h => h) (Or.inl ⟨by rfl, by intro wx hx; go_simp⟩) (by assumption) ?_
            try simp only [List.getElem_toArray, List.getElem_cons_succ, List.getElem_cons_zero, Act.put, List.setIfInBounds_toArray, List.set_cons_zero, List.set_cons_succ]
            refine wpAnyH_take (i := 13) (v := .slice (some ⟨bR, oR, none⟩) Rx.length mR) rfl (by kernel_rfl) (by kernel_rfl) (by kernel_rfl) (fun _ _ _ h => h) (Or.inl ⟨by rfl, by intro wx hx; obtain ⟨_, _, _, _⟩ := hx; go_simp⟩) (by assumption) ?_
            try simp only [List.getElem_toArray, List.getElem_cons_succ, List.getElem_cons_zero, Act.put, List.setIfInBounds_toArray, List.set_cons_zero, List.set_cons_succ]
            refine wpAnyH_take (i := 14) (v := .int .i64 rn) rfl (by kernel_rfl) (by kernel_rfl) (by kernel_rfl) (fun _ _ _ h => h) (Or.inl ⟨by rfl, by intro wx hx; go_simp⟩) (by assumption) ?_
            try simp only [List.getElem_toArray, List.getElem_cons_succ, List.getElem_cons_zero, Act.put, List.setIfInBounds_toArray, List.set_cons_zero, List.set_cons_succ]
            refine wpAnyH_take (i := 15) (v := .pointer (some ⟨bR, oR + rn, none⟩)) rfl (by kernel_rfl) (by kernel_rfl) (by kernel_rfl) (fun _ _ _ h => h) (Or.inl ⟨by rfl, by intro wx hx; go_simp⟩) (by assumption) ?_
            try simp only [List.getElem_toArray, List.getElem_cons_succ, List.getElem_cons_zero, Act.put, List.setIfInBounds_toArray, List.set_cons_zero, List.set_cons_succ]
            refine wpAnyH_take (i := 16) (v := .int .i64 dc) rfl (by kernel_rfl) (by kernel_rfl) (by kernel_rfl) (fun _ _ _ h => h) (Or.inl ⟨by rfl, by intro wx hx; obtain ⟨_, _, _, _⟩ := hx; go_simp⟩) (by assumption) ?_
            try simp only [List.getElem_toArray, List.getElem_cons_succ, List.getElem_cons_zero, Act.put, List.setIfInBounds_toArray, List.set_cons_zero, List.set_cons_succ]
            refine wpAnyH_ready (rs := [3]) (by kernel_rfl) (by simp) ?_
            refine AllReadyH.cons rfl (fun K hK => ?_) AllReadyH.nil
            go_simp
            go_at_call 79
            refine (index_any (w0 := wd) (w := wd) (hW'.ext (e := Ext.trans e05 ed)) (hU.ext (e := ed)) hasc.out hmem.out (by omega)).mono ?_
            rw [hat.out]
            rintro e w6 ⟨rfl, rfl⟩
            have hS6 := hSx.out wd ed
            go_wp2_with fail
            refine hK.out _ _ hS6 (fun _ => ?_)
            clear hK K
            try simp only [List.getElem_toArray, List.getElem_cons_succ, List.getElem_cons_zero, Act.put, List.setIfInBounds_toArray, List.set_cons_zero, List.set_cons_succ]
            refine wpAnyH_take (i := 4) (v := .pointer (some ⟨bw, ow + t, none⟩)) rfl (by kernel_rfl) (by kernel_rfl) (by kernel_rfl) (fun _ _ _ h => h) (Or.inl ⟨by rfl, by intro wx hx; go_simp⟩) (by assumption) ?_
            try simp only [List.getElem_toArray, List.getElem_cons_succ, List.getElem_cons_zero, Act.put, List.setIfInBounds_toArray, List.set_cons_zero, List.set_cons_succ]
            refine wpAnyH_take (i := 5) (v := .int .i64 wt) rfl (by kernel_rfl) (by kernel_rfl) (by kernel_rfl) (fun _ _ _ h => h) (Or.inl ⟨by rfl, by intro wx hx; obtain ⟨_, _, _, _⟩ := hx; go_simp⟩) (by assumption) ?_
            try simp only [List.getElem_toArray, List.getElem_cons_succ, List.getElem_cons_zero, Act.put, List.setIfInBounds_toArray, List.set_cons_zero, List.set_cons_succ]
            refine wpAnyH_take (i := 17) (v := .int .i64 (wt + dc)) rfl (by kernel_rfl) (by kernel_rfl) (by kernel_rfl) (fun _ _ _ h => h) (Or.inl ⟨by rfl, by intro wx hx; go_simp⟩) (by assumption) ?_
            try simp only [List.getElem_toArray, List.getElem_cons_succ, List.getElem_cons_zero, Act.put, List.setIfInBounds_toArray, List.set_cons_zero, List.set_cons_succ]
            refine wpAnyH_take (i := 18) (v := .int .i64 (wt + dc)) rfl (by kernel_rfl) (by kernel_rfl) (by kernel_rfl) (fun _ _ _ h => h) (Or.inl ⟨by rfl, by intro wx hx; go_simp⟩) (by assumption) ?_
            try simp only [List.getElem_toArray, List.getElem_cons_succ, List.getElem_cons_zero, Act.put, List.setIfInBounds_toArray, List.set_cons_zero, List.set_cons_succ]
            refine wpAnyH_done (by kernel_rfl) ?_ _
            obtain ⟨k1, k2, k3, k4⟩ := hS6
            have hbd : Below B w wd := (hb.trans (e5.below.mono hBo)).trans (ed.below.mono hB5)
            have own6 := own5.ext (w' := wd)
            have ob6 := (hown.ext (w' := w5)).ext (w' := wd)
            go_wp2_with fail
            go_roundw
            case rel => exact ⟨s + 1, by omega, by go_num, by rw [hno.out], by rw [hno.out], by rw [hno.out]; exact ob6, hbd⟩
            case measure => simp [intOf]; omega
      · have hsl : s = a.length := by omega
        have hfin := hid (show (svT M P nx a rn s).1 = svC M P nx a rn ∧ (svT M P nx a rn s).2.1 = svK M P nx a rn by
          rw [hsl, hC.out, hK.out]; exact ⟨rfl, rfl⟩)
        rw [hfin.out.1] at hown
        rw [hfin.out.2]
        replace hsl := hid hsl
        go_wp2_with fail
        go_ret2
        exact ⟨_, rfl, hown, hx⟩
end Go.Proofs.YtmgcfnciejfpbaaGreat

/- Tests on a metric and a number of servers, both sides. Written by ch7.py. -/
namespace Go.Proofs.YtmgcfnciejfpbaaGreat
open Go.RowKit

def askB (M : List (List Int)) (k : Int) : Bool := metB M && inB k 1 3
def givB (M : List (List Int)) (k : Int) (ws : List Int) (r : Int) : Bool := askB M k && (inB r 0 (M.length - 1) && workB M (confs M.length k.toNat 0) ws)
theorem askB_iff {M : List (List Int)} {k : Int} : askB M k = true ↔ metB M = true ∧ 1 ≤ k ∧ k ≤ 3 := by simp [askB, inB]
theorem isSmall_any {v : Value} {l : List Int} {w0 w : World} [Ext w0 w] (hl : IsInts w0 v l) :
    Calls Tryz.prog 71 #[v] w fun e w' => e = .returned (.bool (belowB 100000 l)) ∧ Ext w w' := by
  have hl' := hl
  obtain ⟨a, c, rfl, la⟩ := hl.form
  go_enter Tryz.func71, Tryz.ntmps71
  go_wp2_with fail
  with_reducible refine (areBelow_any (w0 := w0) hl' (by omega) (by omega)).mono ?_
  rintro e w1 ⟨rfl, e1⟩
  go_wp2_with fail
  go_ret
  exact ⟨rfl, e1⟩
set_option maxHeartbeats 400000 in
theorem isPoint_any {v : Value} {M : List (List Int)} {x : Int} {w0 w : World} [Ext w0 w] (hm : IsMet w0 v M) :
    Calls Tryz.prog 69 #[v, .int .i64 x] w fun e w' => e = .returned (.bool (inB x 0 (M.length - 1))) ∧ Ext w w' := by
  obtain ⟨v1, rfl, hR⟩ := hm
  obtain ⟨a1, c1, rfl, l1⟩ := hR.form
  go_enter Tryz.func69, Tryz.ntmps69
  go_wp2_with (go_at_call 126; refine (within_any _ _ _ _).mono ?_; rintro e w' ⟨rfl, rfl⟩)
  go_ret
  exact ⟨rfl, inferInstance⟩

set_option maxHeartbeats 800000 in
set_option maxRecDepth 100000 in
theorem isKs_any {v : Value} {M : List (List Int)} {k : Int} {w0 w : World} [Ext w0 w] (hm : IsMet w0 v M) :
    Calls Tryz.prog 61 #[v, .int .i64 k] w fun e w' => e = .returned (.bool (askB M k)) ∧ Ext w w' := by
  have hm' := hm
  obtain ⟨v1, rfl, hR⟩ := hm
  obtain ⟨a1, c1, rfl, l1⟩ := hR.form
  obtain ⟨RES, hRES⟩ : ∃ b, b = askB M k := ⟨_, rfl⟩
  rw [← hRES]
  replace hRES := hid hRES
  cases hc0 : metB M with
  | false =>
    replace hc0 := hid hc0
    have hr := hid (show RES = false by rw [hRES.out]; simp [askB, hc0.out])
    go_enter Tryz.func61, Tryz.ntmps61
    go_wp2_with fail
    with_reducible refine (IsMetric_any (w0 := w0) hm').mono ?_
    rw [hc0.out]
    rintro e w1 ⟨rfl, hb1⟩
    have g1 : Ext w w1 := Ext.trans inferInstance hb1
    have e01 : Ext w0 w1 := Ext.trans ‹Ext w0 w› g1
    go_wp2_with fail
    go_ret
    exact ⟨ret_bool hr.out.symm, g1⟩
  | true =>
    replace hc0 := hid hc0
    cases hc1 : inB k 1 3 with
    | false =>
      replace hc1 := hid hc1
      have hr := hid (show RES = false by rw [hRES.out]; simp [askB, hc0.out, hc1.out])
      go_enter Tryz.func61, Tryz.ntmps61
      go_wp2_with fail
      with_reducible refine (IsMetric_any (w0 := w0) hm').mono ?_
      rw [hc0.out]
      rintro e w1 ⟨rfl, hb1⟩
      have g1 : Ext w w1 := Ext.trans inferInstance hb1
      have e01 : Ext w0 w1 := Ext.trans ‹Ext w0 w› g1
      go_wp2_with fail
      with_reducible refine (isServers_any _ _).mono ?_
      rw [hc1.out]
      rintro e wx ⟨rfl, rfl⟩
      go_wp2_with fail
      go_ret
      exact ⟨ret_bool hr.out.symm, g1⟩
    | true =>
      replace hc1 := hid hc1
      have hr := hid (show RES = true by rw [hRES.out]; simp [askB, hc0.out, hc1.out])
      go_enter Tryz.func61, Tryz.ntmps61
      go_wp2_with fail
      with_reducible refine (IsMetric_any (w0 := w0) hm').mono ?_
      rw [hc0.out]
      rintro e w1 ⟨rfl, hb1⟩
      have g1 : Ext w w1 := Ext.trans inferInstance hb1
      have e01 : Ext w0 w1 := Ext.trans ‹Ext w0 w› g1
      go_wp2_with fail
      with_reducible refine (isServers_any _ _).mono ?_
      rw [hc1.out]
      rintro e wx ⟨rfl, rfl⟩
      go_wp2_with fail
      go_ret
      exact ⟨ret_bool hr.out.symm, g1⟩

set_option maxHeartbeats 800000 in
set_option maxRecDepth 100000 in
theorem l7Asked_any {v : Value} {M : List (List Int)} {k : Int} {w0 w : World} [Ext w0 w] (hm : IsMet w0 v M) :
    Calls Tryz.prog 64 #[v, .int .i64 k] w fun e w' => e = .returned (.bool (askB M k)) ∧ Ext w w' := by
  have hm' := hm
  obtain ⟨v1, rfl, hR⟩ := hm
  obtain ⟨a1, c1, rfl, l1⟩ := hR.form
  obtain ⟨RES, hRES⟩ : ∃ b, b = askB M k := ⟨_, rfl⟩
  rw [← hRES]
  replace hRES := hid hRES
  cases hc0 : metB M with
  | false =>
    replace hc0 := hid hc0
    have hr := hid (show RES = false by rw [hRES.out]; simp [askB, hc0.out])
    go_enter Tryz.func64, Tryz.ntmps64
    go_wp2_with fail
    with_reducible refine (l6Good_any (w0 := w0) hm').mono ?_
    rw [hc0.out]
    rintro e w1 ⟨rfl, hb1⟩
    have g1 : Ext w w1 := Ext.trans inferInstance hb1
    have e01 : Ext w0 w1 := Ext.trans ‹Ext w0 w› g1
    go_wp2_with fail
    go_ret
    exact ⟨ret_bool hr.out.symm, g1⟩
  | true =>
    replace hc0 := hid hc0
    cases hc1 : inB k 1 3 with
    | false =>
      replace hc1 := hid hc1
      have hr := hid (show RES = false by rw [hRES.out]; simp [askB, hc0.out, hc1.out])
      go_enter Tryz.func64, Tryz.ntmps64
      go_wp2_with fail
      with_reducible refine (l6Good_any (w0 := w0) hm').mono ?_
      rw [hc0.out]
      rintro e w1 ⟨rfl, hb1⟩
      have g1 : Ext w w1 := Ext.trans inferInstance hb1
      have e01 : Ext w0 w1 := Ext.trans ‹Ext w0 w› g1
      go_wp2_with fail
      with_reducible refine (l1In_any _ _ _ _).mono ?_
      rw [hc1.out]
      rintro e wx ⟨rfl, rfl⟩
      go_wp2_with fail
      go_ret
      exact ⟨ret_bool hr.out.symm, g1⟩
    | true =>
      replace hc1 := hid hc1
      have hr := hid (show RES = true by rw [hRES.out]; simp [askB, hc0.out, hc1.out])
      go_enter Tryz.func64, Tryz.ntmps64
      go_wp2_with fail
      with_reducible refine (l6Good_any (w0 := w0) hm').mono ?_
      rw [hc0.out]
      rintro e w1 ⟨rfl, hb1⟩
      have g1 : Ext w w1 := Ext.trans inferInstance hb1
      have e01 : Ext w0 w1 := Ext.trans ‹Ext w0 w› g1
      go_wp2_with fail
      with_reducible refine (l1In_any _ _ _ _).mono ?_
      rw [hc1.out]
      rintro e wx ⟨rfl, rfl⟩
      go_wp2_with fail
      go_ret
      exact ⟨ret_bool hr.out.symm, g1⟩
end Go.Proofs.YtmgcfnciejfpbaaGreat

/- The run of the work function algorithm, the program's. -/
namespace Go.Proofs.YtmgcfnciejfpbaaGreat
open Go.RowKit

theorem Tab.side {w w' : World} {B : Nat} {v : Value} {M : List (List Int)} {R S : List Row} (h : Tab w B v M R) (hn : Own w' w.heap.size S) (e : Ext w w') (hB : B ≤ w.heap.size) : Tab w' B v M S := by
  obtain ⟨vs, h1, h2⟩ := h
  have h3 := Own.join h2 hn (hB := hB)
  exact ⟨vs, h1, h3.swap.sub (List.Sublist.append (List.sublist_append_left _ _) (List.Sublist.refl _))⟩




set_option maxHeartbeats 1600000 in
set_option maxRecDepth 100000 in
theorem lists_any {v va vX : Value} {M : List (List Int)} {a X : List Int} {w0 w : World} [Ext w0 w] (hW : IsWorks w0 v M (confs M.length a.length 0)) (hM : metB M = true) (ha : IsInts w0 va a) (hXi : IsInts w0 vX X) (h1k : 1 ≤ a.length) (hk : a.length ≤ 3) (hac : a ∈ confs M.length a.length 0) (hl : X.length ≤ 1000) (hX : ∀ j, j < X.length → 0 ≤ nth X j ∧ nth X j < (M.length : Int)) :
    Calls Tryz.prog 87 #[v, va, vX] w fun e w' => ∃ u, e = .returned u ∧ Tab w' w.heap.size u (wlL M (confs M.length a.length 0) a X X.length) [] ∧ Ext w w' := by
  have hW' := hW
  obtain ⟨bx, mv, pv, cv, rfl, h0, h1, h2, hR, hP, hCs⟩ := hW
  have ha' := ha
  obtain ⟨da, ma, rfl, la⟩ := ha.form
  have hX' := hXi
  obtain ⟨aX, mX, rfl, lX⟩ := hXi.form
  have hMl := met_len hM
  have hdst := hid (dst_of_met hM)
  have hwl := hid (wl_good hdst.out h1k hk hac hX hl)
  have h216 := confs_216 hMl.2 hk
  have hcp := confs_pos (k := a.length) hMl.1
  have hmv := hid (confs_mv hdst.out hk)
  have hasc := hid (confs_asc M.length a.length 0)
  obtain ⟨htl, htr⟩ := atR_lt hac
  have hac' := hid hac
  clear hac h0 h1 hR hP
  replace hM := hid hM
  replace hX := hid hX
  obtain ⟨P, hPd⟩ : ∃ p, p = confs M.length a.length 0 := ⟨_, rfl⟩
  rw [← hPd] at htl htr hac' hasc hmv hcp h216 hwl hW' hCs ⊢
  replace hPd := hid hPd
  obtain ⟨t, ht⟩ : ∃ t, t = atR P a := ⟨_, rfl⟩
  rw [← ht] at htl htr
  have hat := hid ht.symm
  replace ht := hid ht
  have hcl : (cosL M P).length = P.length := by simp [cosL]
  have hrow := hid (show row (cosL M P) t = wst M P a by
    rw [wst, ← htr]
    simp [row, cosL, htl])
  obtain ⟨aC, mC, rfl, lC⟩ := hCs.form
  obtain ⟨bC, oC, dr, mr, hdC, hcr, hrI, _⟩ := hCs.at (w' := w0) (k := t) (by rw [hcl]; exact htl)
  cases hdC
  rw [hcl] at h2
  clear hCs hcl lC
  rw [hrow.out] at hcr hrI
  have hw0 := hid (show wlL M P a X 0 = [wst M P a] from rfl)
  obtain ⟨S0, hS0⟩ : ∃ x, x = wst M P a := ⟨_, rfl⟩
  rw [← hS0] at hcr hrI hw0
  replace hS0 := hid hS0
  obtain ⟨B, hB⟩ : ∃ b, b = w.heap.size := ⟨_, rfl⟩
  have hEx := hid (show ∀ u, Below B w u → Ext w u from fun u h => ⟨by rw [← hB]; exact h⟩)
  have hBl := hid (show ∀ u, Ext w u → B ≤ u.heap.size from fun u e => by rw [hB]; exact e.size)
  have hXb := hid (show ∀ u, Ext w u → Below B w u from fun u e => by rw [hB]; exact e.below)
  rw [← hB]
  replace hB := hid hB
  go_enter Tryz.func87, Tryz.ntmps87
  go_wp2_with fail
  have hSx := hid (show ∀ u, Ext w u → u.cell? ⟨bx, 2, none⟩ = some (.slice (some ⟨bC, oC, none⟩) P.length mC) ∧ u.cell? ⟨bC, oC + t, none⟩ = some (.slice dr S0.length mr) from fun u e => ⟨(Ext.trans ‹Ext w0 w› e).cell h2, (Ext.trans ‹Ext w0 w› e).cell hcr⟩)
  refine region_held_from (w0 := w) (S := fun u => u.cell? ⟨bx, 2, none⟩ = some (.slice (some ⟨bC, oC, none⟩) P.length mC) ∧ u.cell? ⟨bC, oC + t, none⟩ = some (.slice dr S0.length mr)) (by kernel_rfl) hSx.out (fun wd ed hHeld0 => ?_)
  have e0d : Ext w0 wd := Ext.trans ‹Ext w0 w› ed
  refine wpAnyH_take (i := 0) (v := .pointer (some ⟨bx, 0, none⟩)) rfl (by kernel_rfl) (by kernel_rfl) (by kernel_rfl) (fun _ _ _ h => h) (Or.inl ⟨by rfl, by intro wx hx; go_simp⟩) (by assumption) ?_
  try simp only [List.getElem_toArray, List.getElem_cons_zero, Act.put, List.setIfInBounds_toArray, List.set_cons_zero, List.set_cons_succ]
  refine wpAnyH_take (i := 1) (v := .pointer (some ⟨bx, 0, none⟩)) rfl (by kernel_rfl) (by kernel_rfl) (by kernel_rfl) (fun _ _ _ h => h) (Or.inl ⟨by rfl, by intro wx hx; go_simp⟩) (by assumption) ?_
  try simp only [List.getElem_toArray, List.getElem_cons_succ, List.getElem_cons_zero, Act.put, List.setIfInBounds_toArray, List.set_cons_zero, List.set_cons_succ]
  refine wpAnyH_take (i := 2) (v := .pointer (some ⟨bx, 2, none⟩)) rfl (by kernel_rfl) (by kernel_rfl) (by kernel_rfl) (fun _ _ _ h => h) (Or.inl ⟨by rfl, by intro wx hx; go_simp⟩) (by assumption) ?_
  try simp only [List.getElem_toArray, List.getElem_cons_succ, List.getElem_cons_zero, Act.put, List.setIfInBounds_toArray, List.set_cons_zero, List.set_cons_succ]
  refine wpAnyH_take (i := 3) (v := .slice (some ⟨bC, oC, none⟩) P.length mC) rfl (by kernel_rfl) (by kernel_rfl) (by kernel_rfl) (fun _ _ _ h => h) (Or.inl ⟨by rfl, by intro wx hx; obtain ⟨_, _⟩ := hx; go_simp⟩) (by assumption) ?_
  try simp only [List.getElem_toArray, List.getElem_cons_succ, List.getElem_cons_zero, Act.put, List.setIfInBounds_toArray, List.set_cons_zero, List.set_cons_succ]
  refine wpAnyH_take (i := 4) (v := .pointer (some ⟨bx, 0, none⟩)) rfl (by kernel_rfl) (by kernel_rfl) (by kernel_rfl) (fun _ _ _ h => h) (Or.inl ⟨by rfl, by intro wx hx; go_simp⟩) (by assumption) ?_
  try simp only [List.getElem_toArray, List.getElem_cons_succ, List.getElem_cons_zero, Act.put, List.setIfInBounds_toArray, List.set_cons_zero, List.set_cons_succ]
  refine wpAnyH_take (i := 5) (v := .slice da a.length ma) rfl (by kernel_rfl) (by kernel_rfl) (by kernel_rfl) (fun _ _ _ h => h) (Or.inl ⟨by rfl, by intro wx hx; go_simp⟩) (by assumption) ?_
  try simp only [List.getElem_toArray, List.getElem_cons_succ, List.getElem_cons_zero, Act.put, List.setIfInBounds_toArray, List.set_cons_zero, List.set_cons_succ]
  refine wpAnyH_ready (rs := [6]) (by kernel_rfl) (by simp) ?_
  refine AllReadyH.cons rfl (fun K hK => ?_) AllReadyH.nil
  go_simp
  go_at_call 79
  refine (index_any (w0 := w0) hW' ha' hasc.out hac'.out (by omega)).mono ?_
  rw [hat.out]
  rintro e w5 ⟨rfl, rfl⟩
  go_wp2_with fail
  refine hK.out _ _ hHeld0 (fun _ => ?_)
  clear hK K
  try simp only [List.getElem_toArray, List.getElem_cons_succ, List.getElem_cons_zero, Act.put, List.setIfInBounds_toArray, List.set_cons_zero, List.set_cons_succ]
  refine wpAnyH_take (i := 7) (v := .pointer (some ⟨bC, oC + t, none⟩)) rfl (by kernel_rfl) (by kernel_rfl) (by kernel_rfl) (fun _ _ _ h => h) (Or.inl ⟨by rfl, by intro wx hx; go_simp⟩) (by assumption) ?_
  try simp only [List.getElem_toArray, List.getElem_cons_succ, List.getElem_cons_zero, Act.put, List.setIfInBounds_toArray, List.set_cons_zero, List.set_cons_succ]
  refine wpAnyH_take (i := 8) (v := .slice dr S0.length mr) rfl (by kernel_rfl) (by kernel_rfl) (by kernel_rfl) (fun _ _ _ h => h) (Or.inl ⟨by rfl, by intro wx hx; obtain ⟨_, _⟩ := hx; go_simp⟩) (by assumption) ?_
  try simp only [List.getElem_toArray, List.getElem_cons_succ, List.getElem_cons_zero, Act.put, List.setIfInBounds_toArray, List.set_cons_zero, List.set_cons_succ]
  refine wpAnyH_ready (rs := [9]) (by kernel_rfl) (by simp) ?_
  refine AllReadyH.cons rfl (fun K hK => ?_) AllReadyH.nil
  go_simp
  go_at_call 84
  refine (cloneInts_any (w0 := w0) hrI).mono ?_
  rintro e w6 ⟨d6, m6, rfl, own6, e6⟩
  have e6w : Ext w w6 := Ext.trans ed e6
  have hS6 := hSx.out w6 e6w
  have hB6 : B ≤ w6.heap.size := hBl.out _ e6w
  replace own6 := own6.mono (hBl.out _ ed)
  go_wp2_with fail
  refine hK.out _ _ hS6 (fun _ => ?_)
  clear hK K
  try simp only [List.getElem_toArray, List.getElem_cons_succ, List.getElem_cons_zero, Act.put, List.setIfInBounds_toArray, List.set_cons_zero, List.set_cons_succ]
  refine wpAnyH_ready (rs := [10]) (by kernel_rfl) (by simp) ?_
  refine AllReadyH.cons rfl (fun K hK => ?_) AllReadyH.nil
  go_simp
  have oL := own6.lit 27 1 1 #[.slice d6 S0.length m6] hB6 (by unfold maxLen; omega) rfl
  have e7w : Ext w (w6.alloc (.cells #[.slice d6 S0.length m6] 27)) := Ext.trans e6w inferInstance
  have hS7 := hSx.out _ e7w
  refine hK.out _ _ hS7 (fun _ => ?_)
  clear hK K
  try simp only [List.getElem_toArray, List.getElem_cons_succ, List.getElem_cons_zero, Act.put, List.setIfInBounds_toArray, List.set_cons_zero, List.set_cons_succ]
  generalize w6.alloc (.cells #[.slice d6 S0.length m6] 27) = w7 at *
  generalize w6.heap.size = gl at *
  refine wpAnyH_take (i := 11) (v := .slice (some ⟨gl, 0, none⟩) 1 1) rfl (by kernel_rfl) (by kernel_rfl) (by kernel_rfl) (fun _ _ _ h => h) (Or.inl ⟨by rfl, by intro wx hx; go_simp⟩) (by assumption) ?_
  try simp only [List.getElem_toArray, List.getElem_cons_succ, List.getElem_cons_zero, Act.put, List.setIfInBounds_toArray, List.set_cons_zero, List.set_cons_succ]
  refine wpAnyH_done (by kernel_rfl) ?_ _
  have tab0 : Tab w7 B (.slice (some ⟨gl, 0, none⟩) 1 1) (wlL M P a X 0) [] := ⟨[.slice d6 S0.length m6], rfl, by rw [hw0.out]; exact oL⟩
  have b7 : Below B w w7 := hXb.out _ e7w
  clear h2 hcr hrI hSx
  go_wp2_with fail
  go_loopw [7, 23] (fun ov i wr => ∃ q : Nat, q ≤ X.length ∧ i = .int .i64 q ∧ Tab wr B ov (wlL M P a X q) [] ∧ Below B w wr) (fun _ i _ => X.length - (intOf i).toNat)
  case atStart => exact ⟨0, by omega, rfl, tab0, b7⟩
  case round =>
    clear tab0 b7
    obtain ⟨q, hq, rfl, tab, hb⟩ := hrel
    obtain ⟨wq, rfl⟩ : ∃ y : World, y = wr := ⟨_, rfl⟩
    have eq : Ext w wq := hEx.out _ hb
    have e0q : Ext w0 wq := Ext.trans ‹Ext w0 w› eq
    have hBq := hBl.out _ eq
    by_cases hlt : q < X.length
    · obtain ⟨dO, nO, mO, rfl, hnO⟩ := tab.formN
      have hgW := hid (show GoodW M (confs M.length a.length 0) (wlAt M P a X q) 300000 by
        have h := (hwl.out q hq).mono (L' := 300000) (by omega)
        rw [hPd.out] at h ⊢; exact h)
      have hgN := hid (show GoodW M (confs M.length a.length 0) (wlAt M P a X (q + 1)) 300000 by
        have h := (hwl.out (q + 1) hlt).mono (L' := 300000) (by omega)
        rw [hPd.out] at h ⊢; exact h)
      have hT : IsRows wq (.slice dO nO mO) (wlL M P a X q) := tab.reads (by unfold ShortRows; rw [wlL_len]; omega) (fun r hr => by
        obtain ⟨j, hj, rfl⟩ := List.mem_map.1 hr
        have := List.mem_range.1 hj
        have h := (hwl.out j (by omega)).1.1
        unfold Short; omega) (fun r hr => by
        obtain ⟨j, hj, rfl⟩ := List.mem_map.1 hr
        have := List.mem_range.1 hj
        exact good_i64 (hwl.out j (by omega)) (by omega))
      obtain ⟨bO, oO, dW, mW, hdO, hcW, hWI, _⟩ := hT.at (w' := wq) (k := q) (by rw [wlL_len]; omega)
      cases hdO
      have hrq := hid (show row (wlL M P a X q) q = wlAt M P a X q from wlL_row (Nat.le_refl _))
      rw [hrq.out] at hcW hWI
      have hqn : q < nO := by rw [hnO.out, wlL_len]; omega
      obtain ⟨bX, oX, hdX, hcX⟩ := hX'.at (w' := wq) hlt
      cases hdX
      have hTl : (wlL M P a X q).length ≤ 1000000 := by rw [wlL_len]; omega
      have hTs := hid (show wlL M P a X (q + 1) = wlL M P a X q ++ [wlAt M P a X (q + 1)] from wlL_succ)
      have hnw := hid (show wnxL M P (wlAt M P a X q) (nth X q) = wlAt M P a X (q + 1) from rfl)
      have hlw := hid (show (wlAt M P a X q).length = P.length from (hwl.out q hq).1.1)
      have hwb := hid (show ∀ j, j < P.length → 0 ≤ nth (wlAt M P a X q) j ∧ nth (wlAt M P a X q) j ≤ 1000000 from fun j hj => by have := (hwl.out q hq).2 j hj; omega)
      obtain ⟨W, hWd⟩ : ∃ y, y = wlAt M P a X q := ⟨_, rfl⟩
      rw [← hWd] at hcW hWI hnw hlw hwb
      obtain ⟨NW, hNW⟩ : ∃ y, y = wlAt M P a X (q + 1) := ⟨_, rfl⟩
      rw [← hNW] at hnw hTs
      obtain ⟨T, hTd⟩ : ∃ y, y = wlL M P a X q := ⟨_, rfl⟩
      rw [← hTd] at hTs hTl tab
      clear hT
      replace hWd := hid hWd
      replace hNW := hid hNW
      replace hTd := hid hTd
      go_wp2_with fail
      with_reducible refine (wnx_any (w0 := wq) (w := wq) (hW'.ext (w' := wq)) hWI hcp (by omega) hlw.out hwb.out hmv.out).mono ?_
      rw [hnw.out]
      rintro e w5 ⟨d5, m5, rfl, own5, e5⟩
      have tabX := tab.join own5 e5 hBq
      have hB5 : B ≤ w5.heap.size := Nat.le_trans hBq e5.size
      clear tab own5
      go_wp2_with (at_builtin; refine wpList_push rfl (.tmp 28) (.tmp 36) rfl rfl tabX hB5 rfl hTl ?_; intro v9 w9 tab9 b9)
      go_roundw
      case rel => exact ⟨q + 1, by omega, by go_num, by rw [hTs.out]; exact tab9, (hb.trans (e5.below.mono hBq)).trans b9⟩
      case measure => simp [intOf]; omega
    · have hqn : q = X.length := by omega
      rw [hqn] at tab
      replace hqn := hid hqn
      go_wp2_with fail
      go_ret
      exact ⟨_, rfl, tab, eq⟩

def rrT (M : List (List Int)) (a X : List Int) : List (List Int) := if srvB M a X then rnT M (confs M.length a.length 0) a X X.length else []
def rrS (M : List (List Int)) (a X : List Int) : Int := if srvB M a X then rnS M (confs M.length a.length 0) a X X.length else 0
theorem rr_no {M : List (List Int)} {a X : List Int} (h : srvB M a X = false) : rrT M a X = [] ∧ rrS M a X = 0 ∧ srvB M a X = false := by simp [rrT, rrS, h]
theorem rr_yes {M : List (List Int)} {a X : List Int} (h : srvB M a X = true) : rrT M a X = rnT M (confs M.length a.length 0) a X X.length ∧ rrS M a X = rnS M (confs M.length a.length 0) a X X.length ∧ srvB M a X = true := by simp [rrT, rrS, h]
theorem srv_parts {M : List (List Int)} {a X : List Int} (h : srvB M a X = true) : metB M = true ∧ (1 ≤ a.length ∧ a.length ≤ 3) ∧ a ∈ confs M.length a.length 0 ∧ X.length ≤ 60 ∧ ∀ j, j < X.length → 0 ≤ nth X j ∧ nth X j < (M.length : Int) := by
  obtain ⟨h1, h2, h3, h4⟩ := srvB_iff.1 h
  exact ⟨h1, (cfgB_iff.1 h2).1, cfg_conf h2 rfl, h3, fun j hj => belowB_at h4 hj⟩
theorem rrT_len {M : List (List Int)} {a X : List Int} : (rrT M a X).length ≤ 2000000 ∧ sumLen (rrT M a X) ≤ 2000000 := by
  cases h : srvB M a X with
  | false => rw [(rr_no h).1]; simp [sumLen]
  | true =>
    obtain ⟨hM, hk, hac, hl, hX⟩ := srv_parts h
    rw [(rr_yes h).1]
    have h1 := rnT_mem (dst_of_met hM) hk.1 hk.2 hac hX (by omega) (i := X.length) (Nat.le_refl _)
    have h2 := sumLen_le (n := 3) (l := rnT M (confs M.length a.length 0) a X X.length) (fun x hx => by have := (confs_iff.1 (h1 x hx)).1; omega)
    rw [rnT_len] at h2 ⊢
    omega

set_option maxHeartbeats 1600000 in
set_option maxRecDepth 100000 in
theorem specRun_any {v va vX : Value} {M : List (List Int)} {a X : List Int} {w0 w : World} [Ext w0 w] (hm : IsMet w0 v M) (ha : IsInts w0 va a) (hXi : IsInts w0 vX X) :
    Calls Tryz.prog 51 #[v, va, vX] w fun e w' => ∃ d0 m0, e = .returned (.tuple #[.slice d0 (rrT M a X).length m0, .int .i64 (rrS M a X), .bool (srvB M a X)]) ∧ IsRows w' (.slice d0 (rrT M a X).length m0) (rrT M a X) ∧ Ext w w' := by
  have hm' := hm
  obtain ⟨v1, rfl, hR⟩ := hm
  obtain ⟨a1, c1, rfl, l1⟩ := hR.form
  have ha' := ha
  obtain ⟨da, ma, rfl, la⟩ := ha.form
  have hX' := hXi
  obtain ⟨dX, mX, rfl, lX⟩ := hXi.form
  have x0 : (w.alloc (.cells #[.slice a1 M.length c1] 26)).cell? ⟨w.heap.size, 0, none⟩ = some (.slice a1 M.length c1) := by go_simp
  cases hM : metB M with
  | false =>
    have hr := hid (rr_no (show srvB M a X = false by simp [srvB, hM]))
    replace hM := hid hM
    go_enter Tryz.func51, Tryz.ntmps51
    go_wp2_with fail
    with_reducible refine (l6Good_any (w0 := w0) hm').mono ?_
    rw [hM.out]
    rintro e w1 ⟨rfl, e1⟩
    go_wp2_with fail
    go_ret3
    rw [hr.out.1, hr.out.2.1, hr.out.2.2]
    exact ⟨_, _, rfl, isRows_zero _ _ _, Ext.trans inferInstance (Ext.trans e1 inferInstance)⟩
  | true =>
    have hM' := hid hM
    clear hM
    cases hS : srvB M a X with
    | false =>
      have hr := hid (rr_no hS)
      replace hS := hid hS
      go_enter Tryz.func51, Tryz.ntmps51
      go_wp2_with fail
      with_reducible refine (l6Good_any (w0 := w0) hm').mono ?_
      rw [hM'.out]
      rintro e w1 ⟨rfl, e1⟩
      have x1 := e1.cell x0
      have e1w : Ext w w1 := Ext.trans inferInstance e1
      have e01 : Ext w0 w1 := Ext.trans ‹Ext w0 w› e1w
      clear x0 e1
      go_wp2_with fail
      with_reducible refine (l6Start_any (w0 := w0) hm' ha' hX').mono ?_
      rw [hS.out]
      rintro e w2 ⟨rfl, e2⟩
      go_wp2_with fail
      go_ret3
      rw [hr.out.1, hr.out.2.1]
      exact ⟨_, _, rfl, isRows_zero _ _ _, Ext.trans e1w (Ext.trans e2 inferInstance)⟩
    | true =>
      obtain ⟨_, hk, hac, hl, hX⟩ := srv_parts hS
      have hr := hid (rr_yes hS)
      have hac' := hid hac
      have hX2 := hid hX
      clear hac hX
      replace hS := hid hS
      go_enter Tryz.func51, Tryz.ntmps51
      go_wp2_with fail
      with_reducible refine (l6Good_any (w0 := w0) hm').mono ?_
      rw [hM'.out]
      rintro e w1 ⟨rfl, e1⟩
      have x1 := e1.cell x0
      have e1w : Ext w w1 := Ext.trans inferInstance e1
      have e01 : Ext w0 w1 := Ext.trans ‹Ext w0 w› e1w
      clear x0 e1
      go_wp2_with fail
      with_reducible refine (l6Start_any (w0 := w0) hm' ha' hX').mono ?_
      rw [hS.out]
      rintro e w2 ⟨rfl, e2⟩
      have x2 := e2.cell x1
      have e2w : Ext w w2 := Ext.trans e1w e2
      have e02 : Ext w0 w2 := Ext.trans ‹Ext w0 w› e2w
      clear x1 e2
      go_wp2_with fail
      with_reducible refine (l7Run_any (w0 := w0) hm' hM'.out ha' hX' hk.1 hk.2 hac'.out (by omega) hX2.out).mono ?_
      rintro e w3 ⟨u, rfl, hU, e3⟩
      obtain ⟨dU, mU, rfl, lU⟩ := hU.form
      go_wp2_with fail
      go_ret3
      rw [hr.out.1, hr.out.2.1]
      exact ⟨_, _, rfl, hU, Ext.trans e2w e3⟩

set_option maxHeartbeats 1600000 in
set_option maxRecDepth 100000 in
theorem implRun_any {v va vX : Value} {M : List (List Int)} {a X : List Int} {w0 w : World} [Ext w0 w] (hm : IsMet w0 v M) (ha : IsInts w0 va a) (hXi : IsInts w0 vX X) :
    Calls Tryz.prog 32 #[v, va, vX] w fun e w' => ∃ d0 m0 vs0, e = .returned (.tuple #[.slice d0 (rrT M a X).length m0, .int .i64 (rrS M a X), .bool (srvB M a X)]) ∧ vs0.length = (rrT M a X).length ∧ Own w' w.heap.size (rowsOf 27 3 (.slice d0 (rrT M a X).length m0) vs0 (rrT M a X)) ∧ Ext w w' := by
  have hm' := hm
  obtain ⟨v1, rfl, hR⟩ := hm
  obtain ⟨a1, c1, rfl, l1⟩ := hR.form
  have ha' := ha
  obtain ⟨da, ma, rfl, la⟩ := ha.form
  have hX' := hXi
  obtain ⟨dX, mX, rfl, lX⟩ := hXi.form
  have x0 : (w.alloc (.cells #[.slice a1 M.length c1] 26)).cell? ⟨w.heap.size, 0, none⟩ = some (.slice a1 M.length c1) := by go_simp
  cases hS : srvB M a X with
  | false =>
    have hr := hid (rr_no hS)
    replace hS := hid hS
    go_enter Tryz.func32, Tryz.ntmps32
    go_wp2_with fail
    with_reducible refine (isServed_any (w0 := w0) hm' ha' hX').mono ?_
    rw [hS.out]
    rintro e w1 ⟨rfl, e1⟩
    go_wp2_with fail
    go_ret3
    rw [hr.out.1, hr.out.2.1]
    exact ⟨_, _, [], rfl, rfl, (Own.nil _ _).cons_nil _ _, Ext.trans inferInstance e1⟩
  | true =>
    obtain ⟨hM, hk, hac, hl, hX⟩ := srv_parts hS
    have hr := hid (rr_yes hS)
    have hMl := met_len hM
    have hdst := hid (dst_of_met hM)
    have hwl := hid (wl_good hdst.out hk.1 hk.2 hac hX (by omega))
    have hrn := hid (rn_conf hdst.out hk.1 hk.2 hac hX (by omega))
    have hcl := hid (show ∀ c, c ∈ confs M.length a.length 0 → c.length = a.length ∧ ∀ x ∈ c, I64 x from fun c hc => by
      obtain ⟨h1, _, h3⟩ := confs_iff.1 hc
      exact ⟨h1, fun x hx => by have := h3 x hx; unfold I64; omega⟩)
    have h216 := confs_216 hMl.2 hk.2
    have hM' := hid hM
    have hac' := hid hac
    have hX2 := hid hX
    clear hac hX hM
    replace hS := hid hS
    go_enter Tryz.func32, Tryz.ntmps32
    go_wp2_with fail
    with_reducible refine (isServed_any (w0 := w0) hm' ha' hX').mono ?_
    rw [hS.out]
    rintro e w1 ⟨rfl, e1⟩
    have x1 := e1.cell x0
    have e1w : Ext w w1 := Ext.trans inferInstance e1
    have e01 : Ext w0 w1 := Ext.trans ‹Ext w0 w› e1w
    clear x0 e1
    go_wp2_with fail
    with_reducible refine (worksOf_any (w0 := w0) hm' hM'.out hk.1 hk.2).mono ?_
    rintro e w2 ⟨u, rfl, hW, e2⟩
    have e2w : Ext w w2 := Ext.trans e1w e2
    have e02 : Ext w0 w2 := Ext.trans ‹Ext w0 w› e2w
    clear x1 e2
    go_wp2_with fail
    with_reducible refine (lists_any (w0 := w2) (w := w2) hW hM'.out (ha'.ext (w' := w2)) (hX'.ext (w' := w2)) hk.1 hk.2 hac'.out (by omega) hX2.out).mono ?_
    rintro e w3 ⟨vT, rfl, tabT, e3⟩
    have e3w : Ext w w3 := Ext.trans e2w e3
    have e03 : Ext w0 w3 := Ext.trans ‹Ext w0 w› e3w
    have hW3 := hW.ext (w' := w3)
    obtain ⟨P, hPd⟩ : ∃ p, p = confs M.length a.length 0 := ⟨_, rfl⟩
    rw [← hPd] at tabT hwl hrn hcl hac' h216 hr
    replace hPd := hid hPd
    have hT : IsRows w3 vT (wlL M P a X X.length) := tabT.reads (by unfold ShortRows; rw [wlL_len]; omega) (fun r hr => by
      obtain ⟨j, hj, rfl⟩ := List.mem_map.1 hr
      have := List.mem_range.1 hj
      have h := (hwl.out j (by omega)).1.1
      unfold Short; omega) (fun r hr => by
      obtain ⟨j, hj, rfl⟩ := List.mem_map.1 hr
      have := List.mem_range.1 hj
      exact good_i64 (hwl.out j (by omega)) (by omega))
    clear tabT
    obtain ⟨dT, mT, rfl, lT⟩ := hT.form
    obtain ⟨B, hB⟩ : ∃ b, b = w3.heap.size := ⟨_, rfl⟩
    have hEx := hid (show ∀ u, Below B w3 u → Ext w3 u from fun u h => ⟨by rw [← hB]; exact h⟩)
    have hBl := hid (show ∀ u, Ext w3 u → B ≤ u.heap.size from fun u e => by rw [hB]; exact e.size)
    have hBw := hid (show w.heap.size ≤ B by rw [hB]; exact e3w.size)
    have tab0 : Tab (w3.alloc (.cells #[] 27)) B (.slice (some ⟨w3.heap.size, 0, none⟩) 0 0) [] [] := Tab.start (Own.nil _ _) (by rw [hB]; exact Nat.le_refl _)
    have b0 : Below B w3 (w3.alloc (.cells #[] 27)) := by rw [hB]; exact (Below.refl _ _).alloc (Nat.le_refl _) _
    replace hB := hid hB
    go_wp2_with fail
    go_loopw [1, 11, 12, 33] (fun av ov sv i wr => ∃ q : Nat, q ≤ X.length ∧ i = .int .i64 q ∧ sv = .int .i64 (rnS M P a X q) ∧ (∃ R, Tab wr B ov (rnT M P a X q) R ∧ Hid (∀ u, Own u B R → Below B w3 u → IsInts u av (rnA M P a X q))) ∧ Below B w3 wr) (fun _ _ _ i _ => X.length - (intOf i).toNat)
    case atStart => exact ⟨0, by omega, rfl, rfl, ⟨[], tab0, fun u _ h => ha'.ext (e := Ext.trans e03 (hEx.out _ h))⟩, b0⟩
    case round =>
      clear tab0 b0
      obtain ⟨q, hq, rfl, rfl, ⟨R, tab, hrd⟩, hb⟩ := hrel
      obtain ⟨wq, rfl⟩ : ∃ y : World, y = wr := ⟨_, rfl⟩
      have eq : Ext w3 wq := hEx.out _ hb
      have e0q : Ext w0 wq := Ext.trans e03 eq
      have hBq := hBl.out _ eq
      by_cases hlt : q < X.length
      · obtain ⟨dO, nO, mO, rfl, hnO⟩ := tab.formN
        have hA := hrd.out wq tab.rest hb
        clear hrd
        have hAc := hid (show rnA M P a X q ∈ confs M.length a.length 0 by
          have h := (hrn.out q hq).1
          rw [← hPd.out]; exact h)
        have hgN := hid (show GoodW M (confs M.length a.length 0) (wlAt M P a X (q + 1)) 300000 by
          have h := (hwl.out (q + 1) hlt).mono (L' := 300000) (by omega)
          rw [← hPd.out]; exact h)
        obtain ⟨bT, oT, dW, mW, hdT, hcW, hWI, _⟩ := hT.at (w' := wq) (k := q + 1) (by rw [wlL_len]; omega)
        cases hdT
        have hrq := hid (show row (wlL M P a X X.length) (q + 1) = wlAt M P a X (q + 1) from wlL_row (by omega))
        rw [hrq.out] at hcW hWI
        have hqn : q + 1 < (wlL M P a X X.length).length := by rw [wlL_len]; omega
        obtain ⟨bX, oX, hdX, hcX⟩ := hX'.at (w' := wq) hlt
        cases hdX
        have hri := hid (hX2.out q hlt)
        have hTl : (rnT M P a X q).length ≤ 1000000 := by rw [rnT_len]; omega
        have hTs := hid (show rnT M P a X (q + 1) = rnT M P a X q ++ [rnA M P a X (q + 1)] from rnT_succ)
        have hsc := hid (show svC M (confs M.length a.length 0) (wlAt M P a X (q + 1)) (rnA M P a X q) (nth X q) = rnA M P a X (q + 1) by rw [← hPd.out]; rfl)
        have hsk := hid (show svK M (confs M.length a.length 0) (wlAt M P a X (q + 1)) (rnA M P a X q) (nth X q) = rnS M P a X (q + 1) - rnS M P a X q by rw [← hPd.out, rnS]; omega)
        have hA2 := hid (hcl.out _ (hrn.out (q + 1) hlt).1)
        have hb1 := (hrn.out q hq).2
        have hb2 := (hrn.out (q + 1) hlt).2
        obtain ⟨A, hAd⟩ : ∃ y, y = rnA M P a X q := ⟨_, rfl⟩
        rw [← hAd] at hA hAc hsc hsk
        obtain ⟨NW, hNW⟩ : ∃ y, y = wlAt M P a X (q + 1) := ⟨_, rfl⟩
        rw [← hNW] at hgN hcW hWI hsc hsk
        obtain ⟨A2, hA2d⟩ : ∃ y, y = rnA M P a X (q + 1) := ⟨_, rfl⟩
        rw [← hA2d] at hsc hTs hA2
        obtain ⟨r, hrd⟩ : ∃ y, y = nth X q := ⟨_, rfl⟩
        rw [← hrd] at hri hsc hsk hcX
        obtain ⟨L, hL⟩ : ∃ y, y = rnT M P a X q := ⟨_, rfl⟩
        rw [← hL] at tab hTs hTl
        obtain ⟨s1, hs1⟩ : ∃ y, y = rnS M P a X q := ⟨_, rfl⟩
        rw [← hs1] at hsk hb1 ⊢
        obtain ⟨ck, hck⟩ : ∃ y, y = rnS M P a X (q + 1) - s1 := ⟨_, rfl⟩
        rw [← hck] at hsk
        have hck2 := hid (show s1 + ck = rnS M P a X (q + 1) by omega)
        have hsb : 0 ≤ s1 + ck ∧ s1 + ck ≤ 1000000 := by omega
        clear hb2
        have hs99 : 0 ≤ s1 ∧ s1 ≤ 100000 := by omega
        clear hb1
        replace hAd := hid hAd
        replace hNW := hid hNW
        replace hA2d := hid hA2d
        replace hrd := hid hrd
        replace hL := hid hL
        replace hs1 := hid hs1
        replace hck := hid hck
        obtain ⟨dA, mA, hAv, lA⟩ := hA.form
        subst hAv
        go_wp2_with fail
        with_reducible refine (serve_any (w0 := wq) (w := wq) (hW3.ext (w' := wq)) hM'.out (hWI.ext (w' := wq)) hA hk.1 hk.2 hAc.out hgN.out (by omega) hri.out).mono ?_
        rw [hsc.out, hsk.out]
        rintro e w5 ⟨u5, rfl, own5, e5⟩
        have hU : IsInts w5 u5 A2 := own5.reads (by unfold Short; have := hA2.out.1; omega) hA2.out.2
        have tab5 := tab.side own5 e5 hBq
        obtain ⟨dU, mU, rfl, lU⟩ := hU.form
        have hB5 : B ≤ w5.heap.size := Nat.le_trans hBq e5.size
        clear tab own5
        go_wp2_with fail
        with_reducible refine (cloneInts_any (w0 := w5) (w := w5) hU).mono ?_
        rintro e w6 ⟨d6, m6, rfl, own6, e6⟩
        have tabX := tab5.join own6 e6 hB5
        have hB6 : B ≤ w6.heap.size := Nat.le_trans hB5 e6.size
        clear tab5 own6
        go_wp2_with (at_builtin; refine wpList_push rfl (.tmp 50) (.tmp 53) rfl rfl tabX hB6 rfl hTl ?_; intro v9 w9 tab9 b9)
        go_roundw
        case rel => exact ⟨q + 1, by omega, by go_num, by rw [hck2.out], ⟨_, by rw [hTs.out]; exact tab9, fun u h _ => by
          rw [← hA2d.out]
          exact h.reads (by unfold Short; have := hA2.out.1; omega) hA2.out.2⟩, ((hb.trans (e5.below.mono hBq)).trans (e6.below.mono hB5)).trans b9⟩
        case measure => simp [intOf]; omega
      · have hqn : q = X.length := by omega
        rw [hqn] at tab
        have hsq := hid (show rnS M P a X q = rnS M P a X X.length by rw [hqn])
        rw [hsq.out]
        replace hqn := hid hqn
        obtain ⟨vs, hv1, hv2⟩ := tab.drop
        rw [List.append_nil] at hv2
        obtain ⟨dO, mO, hO⟩ := tab.form
        subst hO
        go_wp2_with fail
        go_ret3
        rw [hr.out.1, hr.out.2.1]
        exact ⟨_, _, vs, rfl, hv1, hv2.mono hBw.out, Ext.trans e3w eq⟩
end Go.Proofs.YtmgcfnciejfpbaaGreat

/- CruelRequests of the reference and of the program. -/
namespace Go.Proofs.YtmgcfnciejfpbaaGreat
open Go.RowKit

def sliceN : Value → Nat
  | .slice _ n _ => n
  | _ => 0
theorem perm_d {α : Type} (t x n : α) (Z : List α) : (t :: x :: n :: Z).Perm (x :: n :: t :: Z) := by
  classical
  refine List.perm_iff_count.2 fun y => ?_
  simp only [List.count_cons]
  omega
theorem l3Length_any (x : Int) (w : World) : Calls Tryz.prog 94 #[.int .i64 x] w fun e w' => e = .returned (.bool (inB x 0 60)) ∧ w = w' := by
  go_enter Tryz.func94, Tryz.ntmps94
  go_wp2_with fail
  with_reducible refine (l1In_any _ _ _ _).mono ?_
  rintro e w1 ⟨rfl, rfl⟩
  go_wp2_with fail
  go_ret
  exact ⟨rfl, rfl⟩
theorem isLength_any (x : Int) (w : World) : Calls Tryz.prog 91 #[.int .i64 x] w fun e w' => e = .returned (.bool (inB x 0 60)) ∧ w = w' := by
  go_enter Tryz.func91, Tryz.ntmps91
  go_wp2_with fail
  with_reducible refine (within_any _ _ _ _).mono ?_
  rintro e w1 ⟨rfl, rfl⟩
  go_wp2_with fail
  go_ret
  exact ⟨rfl, rfl⟩
theorem has_mis {a : List Int} {j : Nat} (h : j < misL a) : hasB a (j : Int) = true := hasB_true.2 (mis_in h)
theorem has_not {a : List Int} : hasB a ((misL a : Nat) : Int) = false := hasB_false.2 mis_not
set_option maxHeartbeats 400000 in
theorem l7Missing_any {v : Value} {a : List Int} {w0 w : World} [Ext w0 w] (ha : IsInts w0 v a) (hl : a.length ≤ 1000) :
    Calls Tryz.prog 95 #[v] w fun e w' => e = .returned (.int .i64 (misL a : Nat)) ∧ w = w' := by
  have ha' := ha
  obtain ⟨da, ma, rfl, la⟩ := ha.form
  have hml := mis_le (l := a)
  go_enter Tryz.func95, Tryz.ntmps95
  go_wp2_with fail
  go_loop [3] (fun i => ∃ j : Nat, j ≤ misL a ∧ i = .int .i64 j) (fun i => misL a - (intOf i).toNat)
  case atStart => exact ⟨0, by omega, rfl⟩
  case round =>
    obtain ⟨j, hj, rfl⟩ := hrel
    by_cases hlt : j < misL a
    · have hh := hid (has_mis hlt)
      go_wp2_with fail
      with_reducible refine (l1Has_any (w0 := w0) ha').mono ?_
      rw [hh.out]
      rintro e w1 ⟨rfl, rfl⟩
      go_wp2_with fail
      go_round
      case rel => exact ⟨j + 1, by omega, by go_num⟩
      case measure => simp [intOf]; omega
    · have hjm : j = misL a := by omega
      subst hjm
      have hh := hid (has_not (a := a))
      go_wp2_with fail
      with_reducible refine (l1Has_any (w0 := w0) ha').mono ?_
      rw [hh.out]
      rintro e w1 ⟨rfl, rfl⟩
      go_wp2_with fail
      go_ret
      exact ⟨rfl, rfl⟩

def crB (M : List (List Int)) (a : List Int) (n : Int) : Bool := metB M && (cfgB M.length a && (inB n 0 60 && decide (a.length < M.length)))
def crR (M : List (List Int)) (a : List Int) (n : Int) : List Int := if crB M a n then crL M (confs M.length a.length 0) a n.toNat else []
theorem cr_no {M : List (List Int)} {a : List Int} {n : Int} (h : crB M a n = false) : crR M a n = [] ∧ crB M a n = false := by simp [crR, h]
theorem cr_yes {M : List (List Int)} {a : List Int} {n : Int} (h : crB M a n = true) : crR M a n = crL M (confs M.length a.length 0) a n.toNat ∧ crB M a n = true := by simp [crR, h]
theorem crR_len {M : List (List Int)} {a : List Int} {n : Int} : (crR M a n).length ≤ 4000000 := by
  cases h : crB M a n with
  | false => rw [(cr_no h).1]; simp
  | true =>
    rw [(cr_yes h).1, crL_len]
    simp only [crB, Bool.and_eq_true] at h
    have := inB_true.1 h.2.2.1
    omega
theorem srv_nil {M : List (List Int)} {a : List Int} : srvB M a [] = (metB M && cfgB M.length a) := by simp [srvB, belowB]

set_option maxHeartbeats 3200000 in
set_option maxRecDepth 100000 in
theorem specCru_any {v va : Value} {M : List (List Int)} {a : List Int} {n : Int} {w0 w : World} [Ext w0 w] (hm : IsMet w0 v M) (ha : IsInts w0 va a) (_hn : I64 n) :
    Calls Tryz.prog 31 #[v, va, .int .i64 n] w fun e w' => ∃ d0 m0, e = .returned (.tuple #[.slice d0 (crR M a n).length m0, .bool (crB M a n)]) ∧ IsInts w' (.slice d0 (crR M a n).length m0) (crR M a n) ∧ Ext w w' := by
  have hm' := hm
  obtain ⟨v1, rfl, hR⟩ := hm
  obtain ⟨a1, c1, rfl, l1⟩ := hR.form
  have ha' := ha
  obtain ⟨da, ma, rfl, la⟩ := ha.form
  obtain ⟨w1, hw1⟩ : ∃ x, x = w.alloc (.cells #[.slice a1 M.length c1] 26) := ⟨_, rfl⟩
  have e1 : Ext w w1 := by rw [hw1]; infer_instance
  have x0 : w1.cell? ⟨w.heap.size, 0, none⟩ = some (.slice a1 M.length c1) := by rw [hw1]; go_simp
  obtain ⟨B, hB⟩ : ∃ b, b = w1.heap.size := ⟨_, rfl⟩
  have hEx := hid (show ∀ u, Below B w1 u → Ext w1 u from fun u h => ⟨by rw [← hB]; exact h⟩)
  have hBl := hid (show ∀ u, Ext w1 u → B ≤ u.heap.size from fun u e => by rw [hB]; exact e.size)
  have e01 : Ext w0 w1 := Ext.trans ‹Ext w0 w› e1
  have own0 : Own (w1.alloc (.cells #[] 3)) B [intRowOf 3 (.slice (some ⟨w1.heap.size, 0, none⟩) ([] : List Int).length 0) []] := by
    rw [hB]
    exact Own.litInts (Nat.le_refl _) rfl rfl (by simp) rfl
  have b0 : Below B w1 (w1.alloc (.cells #[] 3)) := by rw [hB]; exact (Below.refl _ _).alloc (Nat.le_refl _) _
  have eA : Ext w1 (w1.alloc (.cells #[] 3)) := inferInstance
  replace hB := hid hB
  cases hM : metB M with
  | false =>
    have hr := hid (cr_no (show crB M a n = false by simp [crB, hM]))
    replace hM := hid hM
    go_enter Tryz.func31, Tryz.ntmps31
    go_upto_region 1 with fail
    rw [← hw1]
    generalize w.heap.size = bx at *
    clear hw1
    go_upto_region 2 with fail
    generalize w1.alloc (.cells #[] 3) = w2 at *
    generalize w1.heap.size = gl at *
    have e02 : Ext w0 w2 := Ext.trans e01 eA
    have x2 := eA.cell x0
    go_wp2_with fail
    with_reducible refine (l6Good_any (w0 := w0) hm').mono ?_
    rw [hM.out]
    rintro e w3 ⟨rfl, e3⟩
    go_wp2_with fail
    go_ret2
    rw [hr.out.1, hr.out.2]
    exact ⟨_, _, rfl, isInts_zero _ _ _, Ext.trans e1 (Ext.trans eA e3)⟩
  | true =>
    have hMl := met_len hM
    have hM' := hid hM
    cases hc : cfgB M.length a with
    | false =>
      have hr := hid (cr_no (show crB M a n = false by simp [crB, hc]))
      clear hM
      replace hc := hid hc
      go_enter Tryz.func31, Tryz.ntmps31
      go_upto_region 1 with fail
      rw [← hw1]
      generalize w.heap.size = bx at *
      clear hw1
      go_upto_region 2 with fail
      generalize w1.alloc (.cells #[] 3) = w2 at *
      generalize w1.heap.size = gl at *
      have e02 : Ext w0 w2 := Ext.trans e01 eA
      have x2 := eA.cell x0
      go_wp2_with fail
      with_reducible refine (l6Good_any (w0 := w0) hm').mono ?_
      rw [hM'.out]
      rintro e w3 ⟨rfl, e3⟩
      have x3 := e3.cell x2
      have e03 : Ext w0 w3 := Ext.trans e02 e3
      go_wp2_with fail
      with_reducible refine (l6Config_any (w0 := w0) ha' (by omega)).mono ?_
      rw [hc.out]
      rintro e w4 ⟨rfl, e4⟩
      go_wp2_with fail
      go_ret2
      rw [hr.out.1, hr.out.2]
      exact ⟨_, _, rfl, isInts_zero _ _ _, Ext.trans e1 (Ext.trans eA (Ext.trans e3 e4))⟩
    | true =>
      have hk := (cfgB_iff.1 hc).1
      have hac := hid (cfg_conf hc rfl)
      cases hin : inB n 0 60 with
      | false =>
        have hr := hid (cr_no (show crB M a n = false by simp [crB, hin]))
        clear hM
        replace hc := hid hc
        replace hin := hid hin
        go_enter Tryz.func31, Tryz.ntmps31
        go_upto_region 1 with fail
        rw [← hw1]
        generalize w.heap.size = bx at *
        clear hw1
        go_upto_region 2 with fail
        generalize w1.alloc (.cells #[] 3) = w2 at *
        generalize w1.heap.size = gl at *
        have e02 : Ext w0 w2 := Ext.trans e01 eA
        have x2 := eA.cell x0
        go_wp2_with fail
        with_reducible refine (l6Good_any (w0 := w0) hm').mono ?_
        rw [hM'.out]
        rintro e w3 ⟨rfl, e3⟩
        have x3 := e3.cell x2
        have e03 : Ext w0 w3 := Ext.trans e02 e3
        go_wp2_with fail
        with_reducible refine (l6Config_any (w0 := w0) ha' (by omega)).mono ?_
        rw [hc.out]
        rintro e w4 ⟨rfl, e4⟩
        have x4 := e4.cell x3
        go_wp2_with fail
        with_reducible refine (l3Length_any _ _).mono ?_
        rw [hin.out]
        rintro e w5 ⟨rfl, rfl⟩
        go_wp2_with fail
        go_ret2
        rw [hr.out.1, hr.out.2]
        exact ⟨_, _, rfl, isInts_zero _ _ _, Ext.trans e1 (Ext.trans eA (Ext.trans e3 e4))⟩
      | true =>
        have hni := inB_true.1 hin
        obtain ⟨nn, rfl⟩ := Int.eq_ofNat_of_zero_le hni.1
        by_cases hlt : a.length < M.length
        · have hr := hid (cr_yes (show crB M a nn = true by simp [crB, hM, hc, hin, hlt]))
          rw [Int.toNat_natCast] at hr
          have hle : decide (M.length ≤ a.length) = false := by simp; omega
          have hdst := hid (dst_of_met hM)
          have hgd := hid (fun (i : Nat) (hi : i ≤ 1000) => cr_good (M := M) (a := a) hdst.out hk.1 hk.2 hlt hac.out i hi)
          have hms := hid (fun (i : Nat) (hi : i ≤ 1000) => cr_mis (M := M) (a := a) hdst.out hk.1 hk.2 hlt hac.out hi)
          have hcl := hid (show ∀ c, c ∈ confs M.length a.length 0 → c.length = a.length ∧ ∀ x ∈ c, I64 x from fun c hc => by
            obtain ⟨h1, _, h3⟩ := confs_iff.1 hc
            exact ⟨h1, fun x hx => by have := h3 x hx; unfold I64; omega⟩)
          have h216 := confs_216 hMl.2 hk.2
          have hn60 : nn ≤ 60 := by omega
          clear hM hlt hni
          replace hc := hid hc
          replace hin := hid hin
          go_enter Tryz.func31, Tryz.ntmps31
          go_upto_region 1 with fail
          rw [← hw1]
          generalize w.heap.size = bx at *
          clear hw1
          go_upto_region 2 with fail
          generalize w1.alloc (.cells #[] 3) = w2 at *
          generalize w1.heap.size = gl at *
          have e02 : Ext w0 w2 := Ext.trans e01 eA
          have x2 := eA.cell x0
          go_wp2_with fail
          with_reducible refine (l6Good_any (w0 := w0) hm').mono ?_
          rw [hM'.out]
          rintro e w3 ⟨rfl, e3⟩
          have x3 := e3.cell x2
          have e03 : Ext w0 w3 := Ext.trans e02 e3
          go_wp2_with fail
          with_reducible refine (l6Config_any (w0 := w0) ha' (by omega)).mono ?_
          rw [hc.out]
          rintro e w4 ⟨rfl, e4⟩
          have x4 := e4.cell x3
          have e04 : Ext w0 w4 := Ext.trans e03 e4
          go_wp2_with fail
          with_reducible refine (l3Length_any _ _).mono ?_
          rw [hin.out]
          rintro e w5 ⟨rfl, rfl⟩
          go_wp2_with fail
          with_reducible refine (l7Start_any (w0 := w0) hm' hM'.out ha' hk.2 hac.out).mono ?_
          rintro e w6 ⟨u6, rfl, ownW, e6⟩
          have e24 : Ext w2 w4 := Ext.trans e3 e4
          have e14 : Ext w1 w4 := Ext.trans eA e24
          have hB4 := hBl.out _ e14
          have hB2 := hBl.out _ eA
          have own6 := (Own.join (own0.ext (w' := w4)) ownW (hB := hB4)).perm (List.Perm.swap _ _ _)
          have b6 : Below B w1 w6 := ext_below (ext_below (c := w4) b0 hB2) hB4
          have e16 : Ext w1 w6 := hEx.out _ b6
          clear own0 b0 ownW x2 x3 x4
          obtain ⟨P, hPd⟩ : ∃ p, p = confs M.length a.length 0 := ⟨_, rfl⟩
          rw [← hPd] at hgd hms hcl h216 hr own6
          replace hPd := hid hPd
          have hwr := hid (show ∀ (i : Nat), i ≤ 1000 → ∀ x ∈ (crT M P a i).2, I64 x from fun i hi => good_i64 (hgd.out i hi).2 (by omega))
          have hwn := hid (show ∀ (i : Nat), i ≤ 1000 → (crT M P a i).2.length = P.length from fun i hi => (hgd.out i hi).2.1.1)
          go_wp2_with fail
          go_loopw [1, 8, 9] (fun av ov wv wr => ∃ q : Nat, q ≤ nn ∧ (∃ Z, Own wr B (intRowOf 3 ov (crL M P a q) :: Z) ∧ Hid (∀ u, Own u B Z → Below B w1 u → IsInts u av (crT M P a q).1 ∧ IsInts u wv (crT M P a q).2)) ∧ Below B w1 wr) (fun _ ov _ _ => nn - sliceN ov)
          case atStart => exact ⟨0, by omega, ⟨[intRowOf 3 u6 (wst M P a)], own6, fun u hz hu => ⟨ha'.ext (e := Ext.trans e01 (hEx.out _ hu)), hz.reads (by unfold Short; have := hwn.out 0 (by omega); rw [show wst M P a = (crT M P a 0).2 from rfl]; omega) (hwr.out 0 (by omega))⟩⟩, b6⟩
          case round =>
            clear own6 b6
            obtain ⟨q, hq, ⟨Z, hown, hrd⟩, hb⟩ := hrel
            obtain ⟨wq, rfl⟩ : ∃ y : World, y = wr := ⟨_, rfl⟩
            have eq : Ext w1 wq := hEx.out _ hb
            have e0q : Ext w0 wq := Ext.trans e01 eq
            have hBq := hBl.out _ eq
            obtain ⟨d0, n0, m0, hu8, hn0⟩ := own_formN hown
            subst hu8
            have hnq := hid (show n0 = q by rw [hn0.out, crL_len])
            obtain ⟨hA, hW⟩ := hrd.out wq hown.tail hb
            clear hrd
            by_cases hlt : q < nn
            · have hn0q : n0 < nn := by rw [hnq.out]; exact hlt
              have hgq := hgd.out q (by omega)
              have hAl := hcl.out _ hgq.1
              have hmq := hms.out q (by omega)
              have hrr := hid (show 0 ≤ ((misL (crT M P a q).1 : Nat) : Int) ∧ ((misL (crT M P a q).1 : Nat) : Int) < (M.length : Int) by omega)
              have hgW := hid (show GoodW M (confs M.length (crT M P a q).1.length 0) (crT M P a q).2 300000 by
                rw [hAl.1, ← hPd.out]
                exact hgq.2.mono (by omega))
              have hgN := hid (show GoodW M (confs M.length a.length 0) (crT M P a (q + 1)).2 300000 by
                rw [← hPd.out]
                exact (hgd.out (q + 1) (by omega)).2.mono (by omega))
              have hnw := hid (show wnxL M (confs M.length (crT M P a q).1.length 0) (crT M P a q).2 ((misL (crT M P a q).1 : Nat) : Int) = (crT M P a (q + 1)).2 by rw [hAl.1, ← hPd.out]; rfl)
              have hsc := hid (show svC M (confs M.length a.length 0) (crT M P a (q + 1)).2 (crT M P a q).1 ((misL (crT M P a q).1 : Nat) : Int) = (crT M P a (q + 1)).1 by rw [← hPd.out]; rfl)
              have hAc := hid (show (crT M P a q).1 ∈ confs M.length a.length 0 by rw [← hPd.out]; exact hgq.1)
              have hTs := hid (show crL M P a (q + 1) = crL M P a q ++ [((misL (crT M P a q).1 : Nat) : Int)] from crL_succ)
              have hA2 := hid (hcl.out _ (hgd.out (q + 1) (by omega)).1)
              have hN2 := hid (show (crT M P a (q + 1)).2.length = P.length ∧ ∀ x ∈ (crT M P a (q + 1)).2, I64 x from ⟨hwn.out (q + 1) (by omega), hwr.out (q + 1) (by omega)⟩)
              have hA3 : (crT M P a q).1.length ≤ 3 := by omega
              have hA1 : 1 ≤ (crT M P a q).1.length := by omega
              have hTl : (crL M P a q).length ≤ 1000 := by rw [crL_len]; omega
              have hn1 : n0 ≤ 1000 := by omega
              obtain ⟨T, hT⟩ : ∃ y, y = crT M P a q := ⟨_, rfl⟩
              rw [← hT] at hA hW hrr hgW hnw hsc hAc hTs hA3 hA1 hmq hAl
              obtain ⟨T2, hT2⟩ : ∃ y, y = crT M P a (q + 1) := ⟨_, rfl⟩
              rw [← hT2] at hgN hnw hsc hA2 hN2
              obtain ⟨A, W⟩ := T
              obtain ⟨A2, NW⟩ := T2
              simp only at hA hW hrr hgW hnw hsc hAc hTs hA3 hA1 hmq hAl hgN hA2 hN2
              have hA2f := hid (show (crT M P a (q + 1)).1 = A2 by rw [← hT2])
              have hN2f := hid (show (crT M P a (q + 1)).2 = NW by rw [← hT2])
              replace hT := hid hT
              replace hT2 := hid hT2
              replace hAl := hid hAl
              obtain ⟨dA, mA, hAv, lA⟩ := hA.form
              subst hAv
              obtain ⟨dW, mW, hWv, lW⟩ := hW.form
              subst hWv
              obtain ⟨L, hL⟩ : ∃ y, y = crL M P a q := ⟨_, rfl⟩
              rw [← hL] at hown hTs hTl hn0
              replace hL := hid hL
              have x0q := eq.cell x0
              go_wp2_with fail
              with_reducible refine (l7Missing_any (w0 := wq) (w := wq) hA (by omega)).mono ?_
              rintro e w7 ⟨rfl, rfl⟩
              generalize misL A = r at *
              go_wp2_with fail
              with_reducible refine (l7NextO_any (w0 := wq) (w := wq) (hm'.ext (e := e0q)) hM'.out hW hA1 hA3 hgW.out (by omega) hrr.out).mono ?_
              rw [hnw.out]
              rintro e w8 ⟨u8, rfl, own8, e8⟩
              have hN : IsInts w8 u8 NW := own8.reads (by unfold Short; rw [hN2.out.1]; omega) hN2.out.2
              have oj8 := Own.join hown own8 (hB := hBq)
              obtain ⟨dN, mN, hNv, lN⟩ := hN.form
              subst hNv
              have x8 := e8.cell x0q
              have e08 : Ext w0 w8 := Ext.trans e0q e8
              have hB8 : B ≤ w8.heap.size := Nat.le_trans hBq e8.size
              clear own8 hown
              go_wp2_with fail
              with_reducible refine (l7ServeO_any (w0 := w8) (w := w8) (hm'.ext (e := e08)) hM'.out hN (hA.ext (w' := w8)) hk.1 hk.2 hAc.out hgN.out (by omega) hrr.out).mono ?_
              rw [hsc.out]
              rintro e w9 ⟨u9, rfl, own9, e9⟩
              have oj9 := Own.join oj8 own9 (hB := hB8)
              have hB9 : B ≤ w9.heap.size := Nat.le_trans hB8 e9.size
              have b9 : Below B w1 w9 := (hb.trans (e8.below.mono hBq)).trans (e9.below.mono hB8)
              have ownL : Own w9 B (⟨3, 1, .slice d0 n0 m0, n0, L.map (Value.int .i64)⟩ :: [intRowOf 3 u9 A2, intRowOf 3 (.slice dN NW.length mN) NW]) := by
                have h := (oj9.perm (perm_d _ _ _ _)).sub (List.Sublist.cons_cons _ (List.Sublist.cons_cons _ (List.Sublist.cons_cons _ (List.nil_sublist _))))
                rw [hn0.out] at h ⊢
                exact h
              clear oj8 oj9 own9
              go_wp2_with (at_builtin; refine wpList_append1 rfl _ _ _ rfl elemInt rfl ownL hB9 rfl rfl (by omega) (by omega) ?_; intro v10 w10 ho hb10)
              have own10 := own_grow1 ho hn0.out
              obtain ⟨d10, m10, hv10⟩ := own10.form
              replace hv10 : v10 = .slice d10 (L ++ [(r : Int)]).length m10 := hv10
              go_roundw
              case rel => exact ⟨q + 1, by omega, ⟨_, by rw [hTs.out]; exact own10, fun u hz _ => by
                rw [hA2f.out, hN2f.out]
                exact ⟨hz.reads (by unfold Short; have := hA2.out.1; omega) hA2.out.2, hz.tail.reads (by unfold Short; rw [hN2.out.1]; omega) hN2.out.2⟩⟩, b9.trans hb10⟩
              case measure =>
                rw [hv10]
                have : L.length = n0 := hn0.out.symm
                simp [sliceN, this]; omega
            · have hqn : q = nn := by omega
              have hn0q : ¬ n0 < nn := by rw [hnq.out]; omega
              have hfin := hid (show IsInts wq (.slice d0 n0 m0) (crL M P a nn) by
                rw [hqn] at hown
                exact hown.reads (by unfold Short; rw [crL_len]; omega) (fun x hx => by
                  obtain ⟨i, hi, rfl⟩ := List.mem_map.1 hx
                  have := List.mem_range.1 hi
                  have := hms.out i (by omega)
                  unfold I64; omega))
              have hnl : Hid (n0 = (crL M P a nn).length) := hid (by rw [hn0.out, hqn])
              replace hqn := hid hqn
              go_wp2_with fail
              go_ret2
              rw [hr.out.1, hr.out.2]
              rw [hnl.out] at hfin ⊢
              exact ⟨_, _, rfl, hfin.out, Ext.trans e1 eq⟩
        · have hr := hid (cr_no (show crB M a nn = false by simp [crB]; intro _ _ _; omega))
          have hle : decide (M.length ≤ a.length) = true := by simp; omega
          clear hM
          replace hc := hid hc
          replace hin := hid hin
          go_enter Tryz.func31, Tryz.ntmps31
          go_upto_region 1 with fail
          rw [← hw1]
          generalize w.heap.size = bx at *
          clear hw1
          go_upto_region 2 with fail
          generalize w1.alloc (.cells #[] 3) = w2 at *
          generalize w1.heap.size = gl at *
          have e02 : Ext w0 w2 := Ext.trans e01 eA
          have x2 := eA.cell x0
          go_wp2_with fail
          with_reducible refine (l6Good_any (w0 := w0) hm').mono ?_
          rw [hM'.out]
          rintro e w3 ⟨rfl, e3⟩
          have x3 := e3.cell x2
          have e03 : Ext w0 w3 := Ext.trans e02 e3
          go_wp2_with fail
          with_reducible refine (l6Config_any (w0 := w0) ha' (by omega)).mono ?_
          rw [hc.out]
          rintro e w4 ⟨rfl, e4⟩
          have x4 := e4.cell x3
          go_wp2_with fail
          with_reducible refine (l3Length_any _ _).mono ?_
          rw [hin.out]
          rintro e w5 ⟨rfl, rfl⟩
          go_wp2_with fail
          go_ret2
          rw [hr.out.1, hr.out.2]
          exact ⟨_, _, rfl, isInts_zero _ _ _, Ext.trans e1 (Ext.trans eA (Ext.trans e3 e4))⟩
end Go.Proofs.YtmgcfnciejfpbaaGreat

/- CruelRequests of the program. -/
namespace Go.Proofs.YtmgcfnciejfpbaaGreat
open Go.RowKit

set_option maxHeartbeats 3200000 in
set_option maxRecDepth 100000 in
theorem implCru_any {v va : Value} {M : List (List Int)} {a : List Int} {n : Int} {w0 w : World} [Ext w0 w] (hm : IsMet w0 v M) (ha : IsInts w0 va a) (_hn : I64 n) :
    Calls Tryz.prog 30 #[v, va, .int .i64 n] w fun e w' => ∃ d0 m0, e = .returned (.tuple #[.slice d0 (crR M a n).length m0, .bool (crB M a n)]) ∧ Own w' w.heap.size [intRowOf 3 (.slice d0 (crR M a n).length m0) (crR M a n)] ∧ Ext w w' := by
  have hm' := hm
  obtain ⟨v1, rfl, hR⟩ := hm
  obtain ⟨a1, c1, rfl, l1⟩ := hR.form
  have ha' := ha
  obtain ⟨da, ma, rfl, la⟩ := ha.form
  have x0 : (w.alloc (.cells #[.slice a1 M.length c1] 26)).cell? ⟨w.heap.size, 0, none⟩ = some (.slice a1 M.length c1) := by go_simp
  have hnil : IsInts w0 (.slice none 0 0) [] := IsInts.nil w0
  cases hS : srvB M a [] with
  | false =>
    have hr := hid (cr_no (show crB M a n = false by rw [srv_nil] at hS; rw [crB, ← Bool.and_assoc, hS]; rfl))
    replace hS := hid hS
    go_enter Tryz.func30, Tryz.ntmps30
    go_wp2_with fail
    with_reducible refine (isServed_any (w0 := w0) hm' ha' hnil).mono ?_
    rw [hS.out]
    rintro e w1 ⟨rfl, e1⟩
    go_wp2_with fail
    go_ret2
    rw [hr.out.1, hr.out.2]
    exact ⟨_, _, rfl, (Own.nil _ _).cons_nil _ _, Ext.trans inferInstance e1⟩
  | true =>
    obtain ⟨hM, hk, hac0, _, _⟩ := srv_parts hS
    have hc : cfgB M.length a = true := (srvB_iff.1 hS).2.1
    have hMl := met_len hM
    have hM' := hid hM
    have hac' := hid hac0
    clear hac0
    replace hS := hid hS
    cases hin : inB n 0 60 with
    | false =>
      have hr := hid (cr_no (show crB M a n = false by simp [crB, hin]))
      clear hM hc
      replace hin := hid hin
      go_enter Tryz.func30, Tryz.ntmps30
      go_wp2_with fail
      with_reducible refine (isServed_any (w0 := w0) hm' ha' hnil).mono ?_
      rw [hS.out]
      rintro e w1 ⟨rfl, e1⟩
      have x1 := e1.cell x0
      go_wp2_with fail
      with_reducible refine (isLength_any _ _).mono ?_
      rw [hin.out]
      rintro e w5 ⟨rfl, rfl⟩
      go_wp2_with fail
      go_ret2
      rw [hr.out.1, hr.out.2]
      exact ⟨_, _, rfl, (Own.nil _ _).cons_nil _ _, Ext.trans inferInstance e1⟩
    | true =>
      have hni := inB_true.1 hin
      obtain ⟨nn, rfl⟩ := Int.eq_ofNat_of_zero_le hni.1
      by_cases hlt : a.length < M.length
      · have hr := hid (cr_yes (show crB M a nn = true by simp [crB, hM, hc, hin, hlt]))
        rw [Int.toNat_natCast] at hr
        have hle : decide (M.length ≤ a.length) = false := by simp; omega
        have hdst := hid (dst_of_met hM)
        have hgd := hid (fun (i : Nat) (hi : i ≤ 1000) => cr_good (M := M) (a := a) hdst.out hk.1 hk.2 hlt hac'.out i hi)
        have hms := hid (fun (i : Nat) (hi : i ≤ 1000) => cr_mis (M := M) (a := a) hdst.out hk.1 hk.2 hlt hac'.out hi)
        have hcl := hid (show ∀ c, c ∈ confs M.length a.length 0 → c.length = a.length ∧ ∀ x ∈ c, I64 x from fun c hc => by
          obtain ⟨h1, _, h3⟩ := confs_iff.1 hc
          exact ⟨h1, fun x hx => by have := h3 x hx; unfold I64; omega⟩)
        have h216 := confs_216 hMl.2 hk.2
        have hcp := confs_pos (k := a.length) hMl.1
        have hmv := hid (confs_mv hdst.out hk.2)
        have hasc := hid (confs_asc M.length a.length 0)
        obtain ⟨htl, htr⟩ := atR_lt hac'.out
        have hn60 : nn ≤ 60 := by omega
        clear hM hlt hni hc
        replace hin := hid hin
        go_enter Tryz.func30, Tryz.ntmps30
        go_wp2_with fail
        with_reducible refine (isServed_any (w0 := w0) hm' ha' hnil).mono ?_
        rw [hS.out]
        rintro e w1 ⟨rfl, e1⟩
        have x1 := e1.cell x0
        have e1w : Ext w w1 := Ext.trans inferInstance e1
        have e01 : Ext w0 w1 := Ext.trans ‹Ext w0 w› e1w
        clear x0
        go_wp2_with fail
        with_reducible refine (isLength_any _ _).mono ?_
        rw [hin.out]
        rintro e w5 ⟨rfl, rfl⟩
        go_wp2_with fail
        with_reducible refine (worksOf_any (w0 := w0) hm' hM'.out hk.1 hk.2).mono ?_
        rintro e wz ⟨uz, rfl, hW, ez⟩
        have e1z : Ext w wz := Ext.trans e1w ez
        have e0z : Ext w0 wz := Ext.trans ‹Ext w0 w› e1z
        clear x1
        obtain ⟨P, hPd⟩ : ∃ p, p = confs M.length a.length 0 := ⟨_, rfl⟩
        rw [← hPd] at hgd hms hcl h216 hr hcp hmv hasc htl htr hW hac'
        replace hPd := hid hPd
        have hW' := hW
        obtain ⟨bw, mv, pv, cv, rfl, h0, h1, h2, hRz, hPz, hCs⟩ := hW
        obtain ⟨t, ht⟩ : ∃ t, t = atR P a := ⟨_, rfl⟩
        rw [← ht] at htl htr
        have hat := hid ht.symm
        replace ht := hid ht
        have hcosl : (cosL M P).length = P.length := by simp [cosL]
        have hrow := hid (show row (cosL M P) t = wst M P a by
          rw [wst, ← htr]
          simp [row, cosL, htl])
        obtain ⟨aC, mC, rfl, lC⟩ := hCs.form
        obtain ⟨bC, oC, dr, mr, hdC, hcr, hrI, _⟩ := hCs.at (w' := wz) (k := t) (by rw [hcosl]; exact htl)
        cases hdC
        rw [hcosl] at h2
        clear hCs hcosl lC h0 h1 hRz hPz
        rw [hrow.out] at hcr hrI
        have hS0d := hid (show (crT M P a 0).2 = wst M P a from rfl)
        obtain ⟨S0, hS0⟩ : ∃ x, x = wst M P a := ⟨_, rfl⟩
        rw [← hS0] at hcr hrI hS0d
        replace hS0 := hid hS0
        obtain ⟨B, hB⟩ : ∃ b, b = wz.heap.size := ⟨_, rfl⟩
        have hEx := hid (show ∀ u, Below B wz u → Ext wz u from fun u h => ⟨by rw [← hB]; exact h⟩)
        have hBl := hid (show ∀ u, Ext wz u → B ≤ u.heap.size from fun u e => by rw [hB]; exact e.size)
        have hXb := hid (show ∀ u, Ext wz u → Below B wz u from fun u e => by rw [hB]; exact e.below)
        have hBw := hid (show w.heap.size ≤ B by rw [hB]; exact e1z.size)
        replace hB := hid hB
        have hwr := hid (show ∀ (i : Nat), i ≤ 1000 → ∀ x ∈ (crT M P a i).2, I64 x from fun i hi => good_i64 (hgd.out i hi).2 (by omega))
        have hwn := hid (show ∀ (i : Nat), i ≤ 1000 → (crT M P a i).2.length = P.length from fun i hi => (hgd.out i hi).2.1.1)
        have hwb := hid (show ∀ (i : Nat), i ≤ 1000 → ∀ j, j < P.length → 0 ≤ nth (crT M P a i).2 j ∧ nth (crT M P a i).2 j ≤ 1000000 from fun i hi j hj => by have := (hgd.out i hi).2.2 j hj; omega)
        go_wp2_with fail
        have hSx := hid (show ∀ u, Ext wz u → u.cell? ⟨bw, 2, none⟩ = some (.slice (some ⟨bC, oC, none⟩) P.length mC) ∧ u.cell? ⟨bC, oC + t, none⟩ = some (.slice dr S0.length mr) from fun u e => ⟨e.cell h2, e.cell hcr⟩)
        refine region_held_from (w0 := wz) (S := fun u => u.cell? ⟨bw, 2, none⟩ = some (.slice (some ⟨bC, oC, none⟩) P.length mC) ∧ u.cell? ⟨bC, oC + t, none⟩ = some (.slice dr S0.length mr)) (by kernel_rfl) hSx.out (fun wd ed hHeld0 => ?_)
        refine wpAnyH_take (i := 0) (v := .pointer (some ⟨bw, 0, none⟩)) rfl (by kernel_rfl) (by kernel_rfl) (by kernel_rfl) (fun _ _ _ h => h) (Or.inl ⟨by rfl, by intro wx hx; go_simp⟩) (by assumption) ?_
        try simp only [List.getElem_toArray, List.getElem_cons_zero, Act.put, List.setIfInBounds_toArray, List.set_cons_zero, List.set_cons_succ]
        refine wpAnyH_take (i := 1) (v := .pointer (some ⟨bw, 0, none⟩)) rfl (by kernel_rfl) (by kernel_rfl) (by kernel_rfl) (fun _ _ _ h => h) (Or.inl ⟨by rfl, by intro wx hx; go_simp⟩) (by assumption) ?_
        try simp only [List.getElem_toArray, List.getElem_cons_succ, List.getElem_cons_zero, Act.put, List.setIfInBounds_toArray, List.set_cons_zero, List.set_cons_succ]
        refine wpAnyH_take (i := 2) (v := .pointer (some ⟨bw, 2, none⟩)) rfl (by kernel_rfl) (by kernel_rfl) (by kernel_rfl) (fun _ _ _ h => h) (Or.inl ⟨by rfl, by intro wx hx; go_simp⟩) (by assumption) ?_
        try simp only [List.getElem_toArray, List.getElem_cons_succ, List.getElem_cons_zero, Act.put, List.setIfInBounds_toArray, List.set_cons_zero, List.set_cons_succ]
        refine wpAnyH_take (i := 3) (v := .slice (some ⟨bC, oC, none⟩) P.length mC) rfl (by kernel_rfl) (by kernel_rfl) (by kernel_rfl) (fun _ _ _ h => h) (Or.inl ⟨by rfl, by intro wx hx; obtain ⟨_, _⟩ := hx; go_simp⟩) (by assumption) ?_
        try simp only [List.getElem_toArray, List.getElem_cons_succ, List.getElem_cons_zero, Act.put, List.setIfInBounds_toArray, List.set_cons_zero, List.set_cons_succ]
        refine wpAnyH_take (i := 4) (v := .pointer (some ⟨bw, 0, none⟩)) rfl (by kernel_rfl) (by kernel_rfl) (by kernel_rfl) (fun _ _ _ h => h) (Or.inl ⟨by rfl, by intro wx hx; go_simp⟩) (by assumption) ?_
        try simp only [List.getElem_toArray, List.getElem_cons_succ, List.getElem_cons_zero, Act.put, List.setIfInBounds_toArray, List.set_cons_zero, List.set_cons_succ]
        refine wpAnyH_take (i := 5) (v := .slice da a.length ma) rfl (by kernel_rfl) (by kernel_rfl) (by kernel_rfl) (fun _ _ _ h => h) (Or.inl ⟨by rfl, by intro wx hx; go_simp⟩) (by assumption) ?_
        try simp only [List.getElem_toArray, List.getElem_cons_succ, List.getElem_cons_zero, Act.put, List.setIfInBounds_toArray, List.set_cons_zero, List.set_cons_succ]
        refine wpAnyH_ready (rs := [6]) (by kernel_rfl) (by simp) ?_
        refine AllReadyH.cons rfl (fun K hK => ?_) AllReadyH.nil
        go_simp
        go_at_call 79
        refine (index_any (w0 := wd) (w := wd) (hW'.ext (e := ed)) (ha'.ext (e := Ext.trans e0z ed)) hasc.out hac'.out (by omega)).mono ?_
        rw [hat.out]
        rintro e w5 ⟨rfl, rfl⟩
        go_wp2_with fail
        refine hK.out _ _ hHeld0 (fun _ => ?_)
        clear hK K
        try simp only [List.getElem_toArray, List.getElem_cons_succ, List.getElem_cons_zero, Act.put, List.setIfInBounds_toArray, List.set_cons_zero, List.set_cons_succ]
        refine wpAnyH_take (i := 7) (v := .pointer (some ⟨bC, oC + t, none⟩)) rfl (by kernel_rfl) (by kernel_rfl) (by kernel_rfl) (fun _ _ _ h => h) (Or.inl ⟨by rfl, by intro wx hx; go_simp⟩) (by assumption) ?_
        try simp only [List.getElem_toArray, List.getElem_cons_succ, List.getElem_cons_zero, Act.put, List.setIfInBounds_toArray, List.set_cons_zero, List.set_cons_succ]
        refine wpAnyH_take (i := 8) (v := .slice dr S0.length mr) rfl (by kernel_rfl) (by kernel_rfl) (by kernel_rfl) (fun _ _ _ h => h) (Or.inl ⟨by rfl, by intro wx hx; obtain ⟨_, _⟩ := hx; go_simp⟩) (by assumption) ?_
        try simp only [List.getElem_toArray, List.getElem_cons_succ, List.getElem_cons_zero, Act.put, List.setIfInBounds_toArray, List.set_cons_zero, List.set_cons_succ]
        refine wpAnyH_take (i := 9) (v := .slice dr S0.length mr) rfl (by kernel_rfl) (by kernel_rfl) (by kernel_rfl) (fun _ _ _ h => h) (Or.inl ⟨by rfl, by intro wx hx; go_simp⟩) (by assumption) ?_
        try simp only [List.getElem_toArray, List.getElem_cons_succ, List.getElem_cons_zero, Act.put, List.setIfInBounds_toArray, List.set_cons_zero, List.set_cons_succ]
        refine wpAnyH_done (by kernel_rfl) ?_ _
        clear h2 hcr
        have edz := hXb.out _ ed
        have own0 : Own (wd.alloc (.cells #[] 3)) B [intRowOf 3 (.slice (some ⟨wd.heap.size, 0, none⟩) ([] : List Int).length 0) []] := Own.litInts (hBl.out _ ed) rfl rfl (by simp) rfl
        have b0 : Below B wz (wd.alloc (.cells #[] 3)) := edz.alloc (hBl.out _ ed) _
        go_wp2_with fail
        go_loopw [1, 9, 10, 44] (fun av wv ov i wr => ∃ q : Nat, q ≤ nn ∧ i = .int .i64 q ∧ (∃ Z, Own wr B (intRowOf 3 ov (crL M P a q) :: Z) ∧ Hid (∀ u, Own u B Z → Below B wz u → IsInts u av (crT M P a q).1 ∧ IsInts u wv (crT M P a q).2)) ∧ Below B wz wr) (fun _ _ _ i _ => nn - (intOf i).toNat)
        case atStart => exact ⟨0, by omega, rfl, ⟨[], own0, fun u _ hu => ⟨ha'.ext (e := Ext.trans e0z (hEx.out _ hu)), by rw [hS0d.out]; exact hrI.ext (e := hEx.out _ hu)⟩⟩, b0⟩
        case round =>
          clear own0 b0
          obtain ⟨q, hq, rfl, ⟨Z, hown, hrd⟩, hb⟩ := hrel
          obtain ⟨wq, rfl⟩ : ∃ y : World, y = wr := ⟨_, rfl⟩
          have eq : Ext wz wq := hEx.out _ hb
          have e0q : Ext w0 wq := Ext.trans e0z eq
          have hBq := hBl.out _ eq
          obtain ⟨d0, n0, m0, hu10, hn0⟩ := own_formN hown
          subst hu10
          have hnq := hid (show n0 = q by rw [hn0.out, crL_len])
          obtain ⟨hA, hWi⟩ := hrd.out wq hown.tail hb
          clear hrd
          by_cases hlt : q < nn
          · have hgq := hgd.out q (by omega)
            have hAl := hcl.out _ hgq.1
            have hmq := hms.out q (by omega)
            have hrr := hid (show 0 ≤ ((misL (crT M P a q).1 : Nat) : Int) ∧ ((misL (crT M P a q).1 : Nat) : Int) < (M.length : Int) by omega)
            have hgN := hid (show GoodW M (confs M.length a.length 0) (crT M P a (q + 1)).2 300000 by
              rw [← hPd.out]
              exact (hgd.out (q + 1) (by omega)).2.mono (by omega))
            have hnw := hid (show wnxL M P (crT M P a q).2 ((misL (crT M P a q).1 : Nat) : Int) = (crT M P a (q + 1)).2 from rfl)
            have hsc := hid (show svC M (confs M.length a.length 0) (crT M P a (q + 1)).2 (crT M P a q).1 ((misL (crT M P a q).1 : Nat) : Int) = (crT M P a (q + 1)).1 by rw [← hPd.out]; rfl)
            have hAc := hid (show (crT M P a q).1 ∈ confs M.length a.length 0 by rw [← hPd.out]; exact hgq.1)
            have hTs := hid (show crL M P a (q + 1) = crL M P a q ++ [((misL (crT M P a q).1 : Nat) : Int)] from crL_succ)
            have hA2 := hid (hcl.out _ (hgd.out (q + 1) (by omega)).1)
            have hN2 := hid (show (crT M P a (q + 1)).2.length = P.length ∧ ∀ x ∈ (crT M P a (q + 1)).2, I64 x from ⟨hwn.out (q + 1) (by omega), hwr.out (q + 1) (by omega)⟩)
            have hWl := hid (hwn.out q (by omega))
            have hWb := hid (hwb.out q (by omega))
            have hA3 : (crT M P a q).1.length ≤ 3 := by omega
            have hTl : (crL M P a q).length ≤ 1000 := by rw [crL_len]; omega
            have hn1 : n0 ≤ 1000 := by have := hnq.out; omega
            have hmm := hid (fun (j : Nat) (h : j < misL (crT M P a q).1) => has_mis h)
            have hmn := hid (has_not (a := (crT M P a q).1))
            obtain ⟨T, hT⟩ : ∃ y, y = crT M P a q := ⟨_, rfl⟩
            rw [← hT] at hA hWi hrr hnw hsc hAc hTs hA3 hmq hAl hWl hWb hmm hmn
            obtain ⟨T2, hT2⟩ : ∃ y, y = crT M P a (q + 1) := ⟨_, rfl⟩
            rw [← hT2] at hgN hnw hsc hA2 hN2
            obtain ⟨A, W⟩ := T
            obtain ⟨A2, NW⟩ := T2
            simp only at hA hWi hrr hnw hsc hAc hTs hA3 hmq hAl hgN hA2 hN2 hWl hWb hmm hmn
            have hA2f := hid (show (crT M P a (q + 1)).1 = A2 by rw [← hT2])
            have hN2f := hid (show (crT M P a (q + 1)).2 = NW by rw [← hT2])
            replace hT := hid hT
            replace hT2 := hid hT2
            replace hAl := hid hAl
            obtain ⟨dA, mA, hAv, lA⟩ := hA.form
            subst hAv
            obtain ⟨dW, mW, hWv, lW⟩ := hWi.form
            subst hWv
            obtain ⟨L, hL⟩ : ∃ y, y = crL M P a q := ⟨_, rfl⟩
            rw [← hL] at hown hTs hTl hn0
            replace hL := hid hL
            generalize misL A = r at *
            go_wp2_with fail
            go_loop [11] (fun i => ∃ j : Nat, j ≤ r ∧ i = .int .i64 j) (fun i => r - (intOf i).toNat)
            case atStart => exact ⟨0, by omega, rfl⟩
            case round =>
              obtain ⟨j, hj, rfl⟩ := hrel
              by_cases hltj : j < r
              · have hh := hid (hmm.out j hltj)
                go_wp2_with fail
                with_reducible refine (sContains_any (w0 := wq) (w := wq) hA).mono ?_
                rw [hh.out]
                rintro e w7 ⟨rfl, rfl⟩
                go_wp2_with fail
                go_round
                case rel => exact ⟨j + 1, by omega, by go_num⟩
                case measure => simp [intOf]; omega
              · have hjr : j = r := by omega
                subst hjr
                go_wp2_with fail
                with_reducible refine (sContains_any (w0 := wq) (w := wq) hA).mono ?_
                rw [hmn.out]
                rintro e w7 ⟨rfl, rfl⟩
                go_wp2_with fail
                with_reducible refine (wnx_any (w0 := wq) (w := wq) (hW'.ext (w' := wq)) hWi hcp (by omega) hWl.out hWb.out hmv.out).mono ?_
                rw [hnw.out]
                rintro e w8 ⟨d8, m8, rfl, own8, e8⟩
                have hN : IsInts w8 (.slice d8 NW.length m8) NW := own8.reads (by unfold Short; rw [hN2.out.1]; omega) hN2.out.2
                have oj8 := Own.join hown own8 (hB := hBq)
                have hB8 : B ≤ w8.heap.size := Nat.le_trans hBq e8.size
                have hW8 := (hW'.ext (w' := wq)).ext (w' := w8)
                clear own8 hown
                go_wp2_with fail
                with_reducible refine (serve_any (w0 := w8) (w := w8) (by rw [← hPd.out]; exact hW8) hM'.out hN (hA.ext (w' := w8)) hk.1 hk.2 hAc.out hgN.out (by omega) hrr.out).mono ?_
                rw [hsc.out]
                rintro e w9 ⟨u9, rfl, own9, e9⟩
                have oj9 := Own.join oj8 own9 (hB := hB8)
                have hB9 : B ≤ w9.heap.size := Nat.le_trans hB8 e9.size
                have b9 : Below B wz w9 := (hb.trans (e8.below.mono hBq)).trans (e9.below.mono hB8)
                have ownL : Own w9 B (⟨3, 1, .slice d0 n0 m0, n0, L.map (Value.int .i64)⟩ :: [intRowOf 3 u9 A2, intRowOf 3 (.slice d8 NW.length m8) NW]) := by
                  have h := (oj9.perm (perm_d _ _ _ _)).sub (List.Sublist.cons_cons _ (List.Sublist.cons_cons _ (List.Sublist.cons_cons _ (List.nil_sublist _))))
                  rw [hn0.out] at h ⊢
                  exact h
                clear oj8 oj9 own9
                go_wp2_with (at_builtin; refine wpList_append1 rfl _ _ _ rfl elemInt rfl ownL hB9 rfl rfl (by omega) (by omega) ?_; intro v10 w10 ho hb10)
                have own10 := own_grow1 ho hn0.out
                go_roundw
                case rel => exact ⟨q + 1, by omega, by go_num, ⟨_, by rw [hTs.out]; exact own10, fun u hz _ => by
                  rw [hA2f.out, hN2f.out]
                  exact ⟨hz.reads (by unfold Short; have := hA2.out.1; omega) hA2.out.2, hz.tail.reads (by unfold Short; rw [hN2.out.1]; omega) hN2.out.2⟩⟩, b9.trans hb10⟩
                case measure => simp [intOf]; omega
          · have hqn : q = nn := by omega
            have hfin := hid (show Own wq B [intRowOf 3 (.slice d0 n0 m0) (crL M P a nn)] by
              rw [hqn] at hown
              exact hown.sub (List.Sublist.cons_cons _ (List.nil_sublist _)))
            have hnl : Hid (n0 = (crL M P a nn).length) := hid (by rw [hn0.out, hqn])
            replace hqn := hid hqn
            go_wp2_with fail
            go_ret2
            rw [hr.out.1, hr.out.2]
            rw [hnl.out] at hfin ⊢
            exact ⟨_, _, rfl, hfin.out.mono hBw.out, Ext.trans e1z eq⟩
      · have hr := hid (cr_no (show crB M a nn = false by simp [crB]; intro _ _ _; omega))
        have hle : decide (M.length ≤ a.length) = true := by simp; omega
        clear hM hc
        replace hin := hid hin
        go_enter Tryz.func30, Tryz.ntmps30
        go_wp2_with fail
        with_reducible refine (isServed_any (w0 := w0) hm' ha' hnil).mono ?_
        rw [hS.out]
        rintro e w1 ⟨rfl, e1⟩
        have x1 := e1.cell x0
        go_wp2_with fail
        with_reducible refine (isLength_any _ _).mono ?_
        rw [hin.out]
        rintro e w5 ⟨rfl, rfl⟩
        go_wp2_with fail
        go_ret2
        rw [hr.out.1, hr.out.2]
        exact ⟨_, _, rfl, (Own.nil _ _).cons_nil _ _, Ext.trans inferInstance e1⟩
end Go.Proofs.YtmgcfnciejfpbaaGreat

/- Plain law: a cruel request is where the algorithm has no server, and costs. -/
namespace Go.Proofs.YtmgcfnciejfpbaaGreat
open Go.RowKit

--PURE
theorem crL_at {M P : List (List Int)} {a : List Int} {n i : Nat} (hi : i < n) : nth (crL M P a n) i = ((misL (crT M P a i).1 : Nat) : Int) := by simp [crL, nth, hi]
/-- the run on the cruel requests goes as they were made -/
theorem cr_run {M P : List (List Int)} {a : List Int} {n : Nat} : ∀ i, i ≤ n → rnA M P a (crL M P a n) i = (crT M P a i).1 ∧ wlAt M P a (crL M P a n) i = (crT M P a i).2 := by
  intro i
  induction i with
  | zero => intro _; exact ⟨rfl, rfl⟩
  | succ i ih =>
    intro hi
    obtain ⟨h1, h2⟩ := ih (by omega)
    have h3 := crL_at (M := M) (P := P) (a := a) (show i < n by omega)
    have h4 : wlAt M P a (crL M P a n) (i + 1) = (crT M P a (i + 1)).2 := by
      rw [wlAt, h2, h3]; rfl
    refine ⟨?_, h4⟩
    rw [rnA, h4, h1, h3]; rfl
theorem cr_not {M P : List (List Int)} {a : List Int} {n i : Nat} (hi : i < n) : nth (crL M P a n) i ∉ rnA M P a (crL M P a n) i := by
  rw [crL_at hi, (cr_run i (by omega)).1]
  exact mis_not
/-- serving from elsewhere costs -/
theorem sv_cost {M : List (List Int)} {n k : Nat} {r L : Int} {nx a : List Int} (hd : Dst M n) (h1k : 1 ≤ k) (hg : GoodW M (confs n k 0) nx L) (hL : L ≤ 2000000) (ha : a ∈ confs n k 0) (hr : 0 ≤ r ∧ r < (n : Int)) (hra : r ∉ a) :
    1 ≤ svK M (confs n k 0) nx a r := by
  obtain ⟨h1, h2, h3⟩ := confs_iff.1 ha
  have hh : hasB a r = false := by
    cases h : hasB a r with
    | false => rfl
    | true => exact absurd (hasB_true.1 h) hra
  rw [svK, hh]
  obtain ⟨t, ht, h4⟩ := svT_at (M := M) (P := confs n k 0) (nx := nx) (a := a) (r := r) (s := a.length) (fun t ht => by have := (svN_in hd hg ha (s := t) (by omega) hr).2; omega) (by omega)
  have hm := nth_mem ht
  have h7 := h3 _ hm
  have h8 := hd.pos (nth a t).toNat r.toNat (by omega) (by omega)
  have h9 := hd.zero (nth a t).toNat r.toNat (by omega) (by omega)
  simp only [h4]
  show 1 ≤ cell M (nth a t).toNat r.toNat
  by_cases hc : cell M (nth a t).toNat r.toNat = 0
  · have := h9 hc
    exact absurd (show r ∈ a by rw [show r = nth a t by omega]; exact hm) hra
  · omega
theorem cr_cost {M : List (List Int)} {n k : Nat} {a : List Int} (hd : Dst M n) (h1 : 1 ≤ k) (hk : k ≤ 3) (hkn : k < n) (ha : a ∈ confs n k 0) {q : Nat} (hq : q ≤ 1000) :
    ∀ i, i ≤ q → (i : Int) ≤ rnS M (confs n k 0) a (crL M (confs n k 0) a q) i := by
  intro i
  induction i with
  | zero => intro _; simp [rnS]
  | succ i ih =>
    intro hi
    have h := ih (by omega)
    have h2 := cr_run (M := M) (P := confs n k 0) (a := a) (n := q) i (by omega)
    have h3 := cr_run (M := M) (P := confs n k 0) (a := a) (n := q) (i + 1) hi
    have h4 := crL_at (M := M) (P := confs n k 0) (a := a) (show i < q by omega)
    have h5 := cr_good hd h1 hk hkn ha i (by omega)
    have h6 := cr_good hd h1 hk hkn ha (i + 1) (by omega)
    have h7 := cr_mis hd h1 hk hkn ha (i := i) (by omega)
    have h8 := sv_cost (r := ((misL (crT M (confs n k 0) a i).1 : Nat) : Int)) hd h1 h6.2 (by omega) h5.1 (by omega) mis_not
    rw [rnS, h3.2, h2.1, h4]
    omega
end Go.Proofs.YtmgcfnciejfpbaaGreat

/- What the laws compare with: lists with both answers, tables where both sides are equal. Written by vlaw.py. -/
namespace Go.Proofs.YtmgcfnciejfpbaaGreat
open Go.RowKit


set_option maxHeartbeats 800000 in
set_option maxRecDepth 100000 in
theorem rInts_any {v1 v2 : Value} {xs ys : List Int} {w0 w : World} [Ext w0 w] (hx : IsInts w0 v1 xs) (hy : IsInts w0 v2 ys) :
    Calls Tryz.prog 104 #[v1, v2] w fun e w' => e = .returned (.bool (decide (xs = ys))) ∧ Ext w w' := by
  obtain ⟨a, ca, rfl, la⟩ := hx.form
  obtain ⟨b, cb, rfl, lb⟩ := hy.form
  by_cases hn : xs.length = ys.length
  · have hne : ((xs.length : Int) != ys.length) = false := by simp [hn]
    replace hn := hid hn
    go_enter Tryz.func104, Tryz.ntmps104
    go_wp2
    go_loopw [5] (fun i wr => ∃ k : Nat, k ≤ xs.length ∧ i = .int .i64 k ∧ Hid (∀ j, j < k → nth xs j = nth ys j) ∧ Drew w wr) (fun i _ => xs.length - (intOf i).toNat)
    case atStart => exact ⟨0, by omega, rfl, by intro j hj; omega, Drew.refl _⟩
    case round =>
      obtain ⟨k, hk, rfl, heq, hd⟩ := hrel
      have ed : Ext w wr := hd.ext
      have e0 : Ext w0 wr := Ext.trans ‹Ext w0 w› ed
      by_cases hlt : k < xs.length
      · have hlt2 : k < ys.length := by have := hn.out; omega
        have hlt2' : (k : Int) < (ys.length : Int) := by omega
        obtain ⟨b1, o1, rfl, hc1⟩ := hx.at (w' := wr) hlt
        obtain ⟨b2, o2, rfl, hc2⟩ := hy.at (w' := wr) hlt2
        by_cases hc : nth xs k = nth ys k
        · have hc' : (nth xs k != nth ys k) = false := by simp [hc]
          replace hc := hid hc
          go_wp2_with (go_quiet (fail))
          go_roundw
          case rel =>
            refine ⟨k + 1, by omega, by go_num, ?_, hd.step _⟩
            intro j hj
            by_cases hjk : j = k
            · subst hjk; exact hc.out
            · exact heq.out j (by omega)
          case measure => simp [intOf]; omega
        · have hc' : (nth xs k != nth ys k) = true := by simpa using hc
          have hfin := hid (show decide (xs = ys) = false from decide_eq_false (fun h => hc (by rw [h])))
          replace hc := hid hc
          go_wp2_with (go_quiet (fail))
          go_ret
          exact ⟨ret_bool hfin.out.symm, Ext.trans ed inferInstance⟩
      · have hfin := hid (show decide (xs = ys) = true from decide_eq_true (eq_of_nth hn.out (fun j hj => heq.out j (by omega))))
        go_wp2
        go_ret
        exact ⟨ret_bool hfin.out.symm, ed⟩
  · have hne : ((xs.length : Int) != ys.length) = true := by simp; omega
    have hfin := hid (show decide (xs = ys) = false from decide_eq_false (fun h => hn (by rw [h])))
    replace hn := hid hn
    go_enter Tryz.func104, Tryz.ntmps104
    go_wp2
    go_ret
    exact ⟨ret_bool hfin.out.symm, Ext.refl _⟩

theorem rInts_same {v u : Value} {X : List Int} {w0 w : World} [Ext w0 w] (hv : IsInts w0 v X) (hu : IsInts w0 u X) :
    Calls Tryz.prog 104 #[v, u] w fun e w' => e = .returned (.bool true) ∧ Ext w w' := by
  refine (rInts_any hv hu).mono ?_
  rintro e w' ⟨rfl, e1⟩
  exact ⟨by rw [decide_eq_true rfl], e1⟩

set_option maxHeartbeats 400000 in
theorem rBig_l {v : Value} {n : Nat} {w : World} (hv : IsBytes w v n) :
    Calls Tryz.prog 34 #[v] w fun e w' => e = .returned (.bool (decide (65536 < n))) ∧ w = w' := by
  obtain ⟨a, c, rfl⟩ := hv.form
  by_cases h : 65536 < n
  · go_enter Tryz.func34, Tryz.ntmps34
    go_wp2
    go_ret
    exact ⟨ret_bool (decide_eq_decide.2 (by omega)), rfl⟩
  · go_enter Tryz.func34, Tryz.ntmps34
    go_wp2
    go_ret
    exact ⟨ret_bool (decide_eq_decide.2 (by omega)), rfl⟩

set_option maxHeartbeats 1600000 in
set_option maxRecDepth 100000 in
theorem rTable_l {v u : Value} {M : List (List Int)} {w0 w : World} [Ext w0 w] (hv : IsRows w0 v M) (hu : IsRows w0 u M) :
    Calls Tryz.prog 38 #[v, u] w fun e w' => e = .returned (.bool true) ∧ Ext w w' := by
  obtain ⟨a1, c1, rfl, l1⟩ := hv.form
  obtain ⟨a2, c2, rfl, l2⟩ := hu.form
  go_enter Tryz.func38, Tryz.ntmps38
  go_wp2
  go_loopw [5] (fun i wr => ∃ k : Nat, k ≤ M.length ∧ i = .int .i64 k ∧ Ext w wr) (fun i _ => M.length - (intOf i).toNat)
  case atStart => exact ⟨0, by omega, rfl, Ext.refl _⟩
  case round =>
    obtain ⟨k, hk, rfl, e2⟩ := hrel
    obtain ⟨wq, rfl⟩ : ∃ y : World, y = wr := ⟨_, rfl⟩
    have e0 : Ext w0 wq := Ext.trans ‹Ext w0 w› e2
    by_cases hlt : k < M.length
    · obtain ⟨b1, o1, d1, m1, rfl, hc1, hr1, _⟩ := hv.at (w' := wq) hlt
      obtain ⟨b2, o2, d2, m2, rfl, hc2, hr2, _⟩ := hu.at (w' := wq) hlt
      go_upto_region 6 with fail
      have ed : Ext wq (wq).drew := inferInstance
      refine wp_region_held_drew (S := fun w' => Ext wq w' ∧ w'.cell? ⟨b1, o1 + k, none⟩ = some (.slice d1 (row M k).length m1) ∧ w'.cell? ⟨b2, o2 + k, none⟩ = some (.slice d2 (row M k).length m2)) (by kernel_rfl) ⟨ed, ed.cell hc1, ed.cell hc2⟩ (fun hHeld0 => ?_)
      refine wpAnyH_take (i := 0) (v := .slice (some ⟨b1, o1, none⟩) M.length c1) rfl (by kernel_rfl) (by kernel_rfl) (by kernel_rfl) (fun _ _ _ h => h) (Or.inl ⟨by rfl, by intro wx hx; go_simp⟩) (by assumption) ?_
      try simp only [List.getElem_toArray, List.getElem_cons_zero, Act.put, List.setIfInBounds_toArray, List.set_cons_zero, List.set_cons_succ]
      refine wpAnyH_take (i := 1) (v := .int .i64 k) rfl (by kernel_rfl) (by kernel_rfl) (by kernel_rfl) (fun _ _ _ h => h) (Or.inl ⟨by rfl, by intro wx hx; go_simp⟩) (by assumption) ?_
      try simp only [List.getElem_toArray, List.getElem_cons_succ, List.getElem_cons_zero, Act.put, List.setIfInBounds_toArray, List.set_cons_zero, List.set_cons_succ]
      refine wpAnyH_take (i := 2) (v := .pointer (some ⟨b1, o1 + k, none⟩)) rfl (by kernel_rfl) (by kernel_rfl) (by kernel_rfl) (fun _ _ _ h => h) (Or.inl ⟨by rfl, by intro wx hx; go_simp⟩) (by assumption) ?_
      try simp only [List.getElem_toArray, List.getElem_cons_succ, List.getElem_cons_zero, Act.put, List.setIfInBounds_toArray, List.set_cons_zero, List.set_cons_succ]
      refine wpAnyH_take (i := 3) (v := .slice d1 (row M k).length m1) rfl (by kernel_rfl) (by kernel_rfl) (by kernel_rfl) (fun _ _ _ h => h) (Or.inl ⟨by rfl, by intro wx hx; obtain ⟨_, _, _⟩ := hx; go_simp⟩) (by assumption) ?_
      try simp only [List.getElem_toArray, List.getElem_cons_succ, List.getElem_cons_zero, Act.put, List.setIfInBounds_toArray, List.set_cons_zero, List.set_cons_succ]
      refine wpAnyH_take (i := 4) (v := .slice (some ⟨b2, o2, none⟩) M.length c2) rfl (by kernel_rfl) (by kernel_rfl) (by kernel_rfl) (fun _ _ _ h => h) (Or.inl ⟨by rfl, by intro wx hx; go_simp⟩) (by assumption) ?_
      try simp only [List.getElem_toArray, List.getElem_cons_succ, List.getElem_cons_zero, Act.put, List.setIfInBounds_toArray, List.set_cons_zero, List.set_cons_succ]
      refine wpAnyH_take (i := 5) (v := .int .i64 k) rfl (by kernel_rfl) (by kernel_rfl) (by kernel_rfl) (fun _ _ _ h => h) (Or.inl ⟨by rfl, by intro wx hx; go_simp⟩) (by assumption) ?_
      try simp only [List.getElem_toArray, List.getElem_cons_succ, List.getElem_cons_zero, Act.put, List.setIfInBounds_toArray, List.set_cons_zero, List.set_cons_succ]
      refine wpAnyH_take (i := 6) (v := .pointer (some ⟨b2, o2 + k, none⟩)) rfl (by kernel_rfl) (by kernel_rfl) (by kernel_rfl) (fun _ _ _ h => h) (Or.inl ⟨by rfl, by intro wx hx; go_simp⟩) (by assumption) ?_
      try simp only [List.getElem_toArray, List.getElem_cons_succ, List.getElem_cons_zero, Act.put, List.setIfInBounds_toArray, List.set_cons_zero, List.set_cons_succ]
      refine wpAnyH_take (i := 7) (v := .slice d2 (row M k).length m2) rfl (by kernel_rfl) (by kernel_rfl) (by kernel_rfl) (fun _ _ _ h => h) (Or.inl ⟨by rfl, by intro wx hx; obtain ⟨_, _, _⟩ := hx; go_simp⟩) (by assumption) ?_
      try simp only [List.getElem_toArray, List.getElem_cons_succ, List.getElem_cons_zero, Act.put, List.setIfInBounds_toArray, List.set_cons_zero, List.set_cons_succ]
      refine wpAnyH_ready (rs := [8]) (by kernel_rfl) (by simp) ?_
      refine AllReadyH.cons rfl (fun K hK => ?_) AllReadyH.nil
      go_simp
      go_at_call 104
      have e0d : Ext w0 wq.drew := Ext.trans e0 ed
      refine (rInts_same (w0 := w0) (w := wq.drew) hr1 hr2).mono ?_
      rintro e w5 ⟨rfl, hb5⟩
      go_wp2_with fail
      have er1 : Ext wq w5 := Ext.trans ed hb5
      refine hK.out _ _ ⟨er1, er1.cell hc1, er1.cell hc2⟩ (fun hHeld1 => ?_)
      clear hK K hHeld0
      try simp only [List.getElem_toArray, List.getElem_cons_succ, List.getElem_cons_zero, Act.put, List.setIfInBounds_toArray, List.set_cons_zero, List.set_cons_succ]
      refine wpAnyH_take (i := 9) (v := .bool false) rfl (by kernel_rfl) (by kernel_rfl) (by kernel_rfl) (fun _ _ _ h => h) (Or.inl ⟨by rfl, by intro wx hx; go_simp⟩) (by assumption) ?_
      try simp only [List.getElem_toArray, List.getElem_cons_succ, List.getElem_cons_zero, Act.put, List.setIfInBounds_toArray, List.set_cons_zero, List.set_cons_succ]
      refine wpAnyH_done (by kernel_rfl) ?_ _
      go_wp2_with fail
      go_roundw
      case rel => exact ⟨k + 1, by omega, by go_num, Ext.trans e2 er1⟩
      case measure => simp [intOf]; omega
    · go_wp2
      go_ret
      exact ⟨rfl, e2⟩

set_option maxHeartbeats 800000 in
set_option maxRecDepth 100000 in
theorem vInts_any {v1 v2 : Value} {xs ys : List Int} {w0 w : World} [Ext w0 w] (hx : IsInts w0 v1 xs) (hy : IsInts w0 v2 ys) :
    Calls Tryz.prog 21 #[v1, v2] w fun e w' => e = .returned (.bool (decide (xs = ys))) ∧ Ext w w' := by
  obtain ⟨a, ca, rfl, la⟩ := hx.form
  obtain ⟨b, cb, rfl, lb⟩ := hy.form
  by_cases hn : xs.length = ys.length
  · have hne : ((xs.length : Int) != ys.length) = false := by simp [hn]
    replace hn := hid hn
    go_enter Tryz.func21, Tryz.ntmps21
    go_wp2
    go_loopw [5] (fun i wr => ∃ k : Nat, k ≤ xs.length ∧ i = .int .i64 k ∧ Hid (∀ j, j < k → nth xs j = nth ys j) ∧ Drew w wr) (fun i _ => xs.length - (intOf i).toNat)
    case atStart => exact ⟨0, by omega, rfl, by intro j hj; omega, Drew.refl _⟩
    case round =>
      obtain ⟨k, hk, rfl, heq, hd⟩ := hrel
      have ed : Ext w wr := hd.ext
      have e0 : Ext w0 wr := Ext.trans ‹Ext w0 w› ed
      by_cases hlt : k < xs.length
      · have hlt2 : k < ys.length := by have := hn.out; omega
        have hlt2' : (k : Int) < (ys.length : Int) := by omega
        obtain ⟨b1, o1, rfl, hc1⟩ := hx.at (w' := wr) hlt
        obtain ⟨b2, o2, rfl, hc2⟩ := hy.at (w' := wr) hlt2
        by_cases hc : nth xs k = nth ys k
        · have hc' : (nth xs k != nth ys k) = false := by simp [hc]
          replace hc := hid hc
          go_wp2_with (go_quiet (fail))
          go_roundw
          case rel =>
            refine ⟨k + 1, by omega, by go_num, ?_, hd.step _⟩
            intro j hj
            by_cases hjk : j = k
            · subst hjk; exact hc.out
            · exact heq.out j (by omega)
          case measure => simp [intOf]; omega
        · have hc' : (nth xs k != nth ys k) = true := by simpa using hc
          have hfin := hid (show decide (xs = ys) = false from decide_eq_false (fun h => hc (by rw [h])))
          replace hc := hid hc
          go_wp2_with (go_quiet (fail))
          go_ret
          exact ⟨ret_bool hfin.out.symm, Ext.trans ed inferInstance⟩
      · have hfin := hid (show decide (xs = ys) = true from decide_eq_true (eq_of_nth hn.out (fun j hj => heq.out j (by omega))))
        go_wp2
        go_ret
        exact ⟨ret_bool hfin.out.symm, ed⟩
  · have hne : ((xs.length : Int) != ys.length) = true := by simp; omega
    have hfin := hid (show decide (xs = ys) = false from decide_eq_false (fun h => hn (by rw [h])))
    replace hn := hid hn
    go_enter Tryz.func21, Tryz.ntmps21
    go_wp2
    go_ret
    exact ⟨ret_bool hfin.out.symm, Ext.refl _⟩

theorem vInts_same {v u : Value} {X : List Int} {w0 w : World} [Ext w0 w] (hv : IsInts w0 v X) (hu : IsInts w0 u X) :
    Calls Tryz.prog 21 #[v, u] w fun e w' => e = .returned (.bool true) ∧ Ext w w' := by
  refine (vInts_any hv hu).mono ?_
  rintro e w' ⟨rfl, e1⟩
  exact ⟨by rw [decide_eq_true rfl], e1⟩

set_option maxHeartbeats 400000 in
set_option maxRecDepth 100000 in
theorem vHas_any {v : Value} {xs : List Int} {x : Int} {w0 w : World} [Ext w0 w] (hx : IsInts w0 v xs) :
    Calls Tryz.prog 33 #[v, .int .i64 x] w fun e w' => e = .returned (.bool (hasB xs x)) ∧ w = w' := by
  obtain ⟨a, c, rfl, la⟩ := hx.form
  go_enter Tryz.func33, Tryz.ntmps33
  go_wp2
  go_loop [5] (fun i => ∃ k : Nat, k ≤ xs.length ∧ i = .int .i64 k ∧ Hid (∀ j, j < k → nth xs j ≠ x)) (fun i => xs.length - (intOf i).toNat)
  case atStart => exact ⟨0, by omega, rfl, by intro j hj; omega⟩
  case round =>
    obtain ⟨k, hk, rfl, hno⟩ := hrel
    by_cases hlt : k < xs.length
    · obtain ⟨b, o, rfl, hc⟩ := hx.at (w' := w) hlt
      by_cases he : nth xs k = x
      · have hr := hid (show hasB xs x = true from hasB_true.2 (mem_iff_nth.2 ⟨k, hlt, he⟩))
        have hb : (nth xs k == x) = true := by simp [he]
        replace he := hid he
        go_wp2
        go_ret
        exact ⟨ret_bool hr.out.symm, rfl⟩
      · have hb : (nth xs k == x) = false := by simpa using he
        replace he := hid he
        go_wp2
        go_round
        case rel =>
          refine ⟨k + 1, by omega, by go_num, fun j hj => ?_⟩
          by_cases e : j = k
          · rw [e]; exact he.out
          · exact hno.out j (by omega)
        case measure => simp [intOf]; omega
    · have hr := hid (show hasB xs x = false from hasB_false.2 fun h => by
        obtain ⟨j, hj, e⟩ := mem_iff_nth.1 h
        exact hno.out j (by omega) e)
      go_wp2
      go_ret
      exact ⟨ret_bool hr.out.symm, rfl⟩

set_option maxHeartbeats 400000 in
theorem vBig_l {v : Value} {n : Nat} {w : World} (hv : IsBytes w v n) :
    Calls Tryz.prog 10 #[v] w fun e w' => e = .returned (.bool (decide (65536 < n))) ∧ w = w' := by
  obtain ⟨a, c, rfl⟩ := hv.form
  by_cases h : 65536 < n
  · go_enter Tryz.func10, Tryz.ntmps10
    go_wp2
    go_ret
    exact ⟨ret_bool (decide_eq_decide.2 (by omega)), rfl⟩
  · go_enter Tryz.func10, Tryz.ntmps10
    go_wp2
    go_ret
    exact ⟨ret_bool (decide_eq_decide.2 (by omega)), rfl⟩

set_option maxHeartbeats 1600000 in
set_option maxRecDepth 100000 in
theorem vTable_l {v u : Value} {M : List (List Int)} {w0 w : World} [Ext w0 w] (hv : IsRows w0 v M) (hu : IsRows w0 u M) :
    Calls Tryz.prog 28 #[v, u] w fun e w' => e = .returned (.bool true) ∧ Ext w w' := by
  obtain ⟨a1, c1, rfl, l1⟩ := hv.form
  obtain ⟨a2, c2, rfl, l2⟩ := hu.form
  go_enter Tryz.func28, Tryz.ntmps28
  go_wp2
  go_loopw [5] (fun i wr => ∃ k : Nat, k ≤ M.length ∧ i = .int .i64 k ∧ Ext w wr) (fun i _ => M.length - (intOf i).toNat)
  case atStart => exact ⟨0, by omega, rfl, Ext.refl _⟩
  case round =>
    obtain ⟨k, hk, rfl, e2⟩ := hrel
    obtain ⟨wq, rfl⟩ : ∃ y : World, y = wr := ⟨_, rfl⟩
    have e0 : Ext w0 wq := Ext.trans ‹Ext w0 w› e2
    by_cases hlt : k < M.length
    · obtain ⟨b1, o1, d1, m1, rfl, hc1, hr1, _⟩ := hv.at (w' := wq) hlt
      obtain ⟨b2, o2, d2, m2, rfl, hc2, hr2, _⟩ := hu.at (w' := wq) hlt
      go_upto_region 6 with fail
      have ed : Ext wq (wq).drew := inferInstance
      refine wp_region_held_drew (S := fun w' => Ext wq w' ∧ w'.cell? ⟨b1, o1 + k, none⟩ = some (.slice d1 (row M k).length m1) ∧ w'.cell? ⟨b2, o2 + k, none⟩ = some (.slice d2 (row M k).length m2)) (by kernel_rfl) ⟨ed, ed.cell hc1, ed.cell hc2⟩ (fun hHeld0 => ?_)
      refine wpAnyH_take (i := 0) (v := .slice (some ⟨b1, o1, none⟩) M.length c1) rfl (by kernel_rfl) (by kernel_rfl) (by kernel_rfl) (fun _ _ _ h => h) (Or.inl ⟨by rfl, by intro wx hx; go_simp⟩) (by assumption) ?_
      try simp only [List.getElem_toArray, List.getElem_cons_zero, Act.put, List.setIfInBounds_toArray, List.set_cons_zero, List.set_cons_succ]
      refine wpAnyH_take (i := 1) (v := .int .i64 k) rfl (by kernel_rfl) (by kernel_rfl) (by kernel_rfl) (fun _ _ _ h => h) (Or.inl ⟨by rfl, by intro wx hx; go_simp⟩) (by assumption) ?_
      try simp only [List.getElem_toArray, List.getElem_cons_succ, List.getElem_cons_zero, Act.put, List.setIfInBounds_toArray, List.set_cons_zero, List.set_cons_succ]
      refine wpAnyH_take (i := 2) (v := .pointer (some ⟨b1, o1 + k, none⟩)) rfl (by kernel_rfl) (by kernel_rfl) (by kernel_rfl) (fun _ _ _ h => h) (Or.inl ⟨by rfl, by intro wx hx; go_simp⟩) (by assumption) ?_
      try simp only [List.getElem_toArray, List.getElem_cons_succ, List.getElem_cons_zero, Act.put, List.setIfInBounds_toArray, List.set_cons_zero, List.set_cons_succ]
      refine wpAnyH_take (i := 3) (v := .slice d1 (row M k).length m1) rfl (by kernel_rfl) (by kernel_rfl) (by kernel_rfl) (fun _ _ _ h => h) (Or.inl ⟨by rfl, by intro wx hx; obtain ⟨_, _, _⟩ := hx; go_simp⟩) (by assumption) ?_
      try simp only [List.getElem_toArray, List.getElem_cons_succ, List.getElem_cons_zero, Act.put, List.setIfInBounds_toArray, List.set_cons_zero, List.set_cons_succ]
      refine wpAnyH_take (i := 4) (v := .slice (some ⟨b2, o2, none⟩) M.length c2) rfl (by kernel_rfl) (by kernel_rfl) (by kernel_rfl) (fun _ _ _ h => h) (Or.inl ⟨by rfl, by intro wx hx; go_simp⟩) (by assumption) ?_
      try simp only [List.getElem_toArray, List.getElem_cons_succ, List.getElem_cons_zero, Act.put, List.setIfInBounds_toArray, List.set_cons_zero, List.set_cons_succ]
      refine wpAnyH_take (i := 5) (v := .int .i64 k) rfl (by kernel_rfl) (by kernel_rfl) (by kernel_rfl) (fun _ _ _ h => h) (Or.inl ⟨by rfl, by intro wx hx; go_simp⟩) (by assumption) ?_
      try simp only [List.getElem_toArray, List.getElem_cons_succ, List.getElem_cons_zero, Act.put, List.setIfInBounds_toArray, List.set_cons_zero, List.set_cons_succ]
      refine wpAnyH_take (i := 6) (v := .pointer (some ⟨b2, o2 + k, none⟩)) rfl (by kernel_rfl) (by kernel_rfl) (by kernel_rfl) (fun _ _ _ h => h) (Or.inl ⟨by rfl, by intro wx hx; go_simp⟩) (by assumption) ?_
      try simp only [List.getElem_toArray, List.getElem_cons_succ, List.getElem_cons_zero, Act.put, List.setIfInBounds_toArray, List.set_cons_zero, List.set_cons_succ]
      refine wpAnyH_take (i := 7) (v := .slice d2 (row M k).length m2) rfl (by kernel_rfl) (by kernel_rfl) (by kernel_rfl) (fun _ _ _ h => h) (Or.inl ⟨by rfl, by intro wx hx; obtain ⟨_, _, _⟩ := hx; go_simp⟩) (by assumption) ?_
      try simp only [List.getElem_toArray, List.getElem_cons_succ, List.getElem_cons_zero, Act.put, List.setIfInBounds_toArray, List.set_cons_zero, List.set_cons_succ]
      refine wpAnyH_ready (rs := [8]) (by kernel_rfl) (by simp) ?_
      refine AllReadyH.cons rfl (fun K hK => ?_) AllReadyH.nil
      go_simp
      go_at_call 21
      have e0d : Ext w0 wq.drew := Ext.trans e0 ed
      refine (vInts_same (w0 := w0) (w := wq.drew) hr1 hr2).mono ?_
      rintro e w5 ⟨rfl, hb5⟩
      go_wp2_with fail
      have er1 : Ext wq w5 := Ext.trans ed hb5
      refine hK.out _ _ ⟨er1, er1.cell hc1, er1.cell hc2⟩ (fun hHeld1 => ?_)
      clear hK K hHeld0
      try simp only [List.getElem_toArray, List.getElem_cons_succ, List.getElem_cons_zero, Act.put, List.setIfInBounds_toArray, List.set_cons_zero, List.set_cons_succ]
      refine wpAnyH_take (i := 9) (v := .bool false) rfl (by kernel_rfl) (by kernel_rfl) (by kernel_rfl) (fun _ _ _ h => h) (Or.inl ⟨by rfl, by intro wx hx; go_simp⟩) (by assumption) ?_
      try simp only [List.getElem_toArray, List.getElem_cons_succ, List.getElem_cons_zero, Act.put, List.setIfInBounds_toArray, List.set_cons_zero, List.set_cons_succ]
      refine wpAnyH_done (by kernel_rfl) ?_ _
      go_wp2_with fail
      go_roundw
      case rel => exact ⟨k + 1, by omega, by go_num, Ext.trans e2 er1⟩
      case measure => simp [intOf]; omega
    · go_wp2
      go_ret
      exact ⟨rfl, e2⟩
end Go.Proofs.YtmgcfnciejfpbaaGreat

/- 'laws.FnCruelRequests': for every code the law returns true. -/
namespace Go.Proofs.YtmgcfnciejfpbaaGreat
open Go.RowKit

theorem rnT_row {M P : List (List Int)} {a X : List Int} {n i : Nat} (h : i < n) : row (rnT M P a X n) i = rnA M P a X (i + 1) := by simp [rnT, row, h]
theorem crB_parts {M : List (List Int)} {a : List Int} {n : Int} (h : crB M a n = true) : metB M = true ∧ cfgB M.length a = true ∧ (0 ≤ n ∧ n ≤ 60) ∧ a.length < M.length := by
  simp only [crB, Bool.and_eq_true, decide_eq_true_eq] at h
  exact ⟨h.1, h.2.1, inB_true.1 h.2.2.1, h.2.2.2⟩
/-- what the law asks of the run on cruel requests -/
theorem cr_law {M : List (List Int)} {a : List Int} {n : Int} (h : crB M a n = true) : srvB M a (crR M a n) = true ∧ (crR M a n).length = n.toNat ∧ rrT M a (crR M a n) = rnT M (confs M.length a.length 0) a (crR M a n) n.toNat ∧
    (∀ t, t < n.toNat → nth (crR M a n) t ∉ rnA M (confs M.length a.length 0) a (crR M a n) t) ∧ n ≤ rrS M a (crR M a n) ∧ rrS M a (crR M a n) ≤ 6000 := by
  obtain ⟨h1, h2, h3, h4⟩ := crB_parts h
  obtain ⟨h5, h6, h7⟩ := cfgB_iff.1 h2
  have hd := dst_of_met h1
  have ha := cfg_conf h2 rfl
  have e : crR M a n = crL M (confs M.length a.length 0) a n.toNat := by rw [crR, if_pos h]
  have hl : (crR M a n).length = n.toNat := by rw [e, crL_len]
  have hX : ∀ j, j < (crR M a n).length → 0 ≤ nth (crR M a n) j ∧ nth (crR M a n) j < (M.length : Int) := fun j hj => by
    rw [hl] at hj
    rw [e, crL_at hj]
    have := cr_mis hd h5.1 h5.2 h4 ha (i := j) (by omega)
    omega
  have hS : srvB M a (crR M a n) = true := srvB_iff.2 ⟨h1, h2, by rw [hl]; omega, belowB_of fun j hj => inB_true.2 (by have := hX j hj; omega)⟩
  have hc := cr_cost hd h5.1 h5.2 h4 ha (q := n.toNat) (by omega) n.toNat (Nat.le_refl _)
  have hu := (rn_conf hd h5.1 h5.2 ha hX (by omega) n.toNat (by omega)).2.2
  refine ⟨hS, hl, ?_, fun t ht => ?_, ?_, ?_⟩
  · rw [rrT, if_pos hS, hl]
  · rw [e]; exact cr_not ht
  · rw [rrS, if_pos hS, hl, e]; omega
  · rw [rrS, if_pos hS, hl]; omega

set_option maxHeartbeats 3200000 in
set_option maxRecDepth 100000 in
theorem lawFnCruelRequests_any {v : Value} {nb : Nat} {w : World} (hc : IsBytes w v nb) :
    Calls Tryz.prog 4 #[v] w fun e w' => e = .returned (.bool true) ∧ Ext w w' := by
  have hc' := hc
  obtain ⟨ac, cc, rfl⟩ := hc.form
  by_cases hbig : 65536 < nb
  · have hd := hid (decide_eq_true hbig)
    go_enter Tryz.func4, Tryz.ntmps4
    go_wp2_with fail
    refine (vBig_l hc').mono ?_
    rw [hd.out]
    rintro e w1 ⟨rfl, rfl⟩
    go_wp2_with fail
    go_ret
    exact ⟨rfl, Ext.refl _⟩
  · have hd := hid (decide_eq_false hbig)
    go_enter Tryz.func4, Tryz.ntmps4
    go_wp2_with fail
    refine (vBig_l hc').mono ?_
    rw [hd.out]
    rintro e w1 ⟨rfl, rfl⟩
    go_wp2_with fail
    refine (drawCR_any (w0 := w) (w := w) hc').mono ?_
    rintro e w1 ⟨fM, cM, av, n, M, a, Z, rfl, hMok, hal, hn, ownZ, hZ, e1⟩
    obtain ⟨hm, ha⟩ := hZ.out _ _ ownZ
    have hni : I64 n := by unfold I64; omega
    obtain ⟨da, ma, rfl, la⟩ := ha.form
    clear hZ ownZ
    go_upto_region 4 with fail
    have g2 : Ext w1 (w1.alloc (.cells #[.slice fM M.length cM] 26)) := inferInstance
    have x0_2 : (w1.alloc (.cells #[.slice fM M.length cM] 26)).cell? ⟨w1.heap.size, 0, none⟩ = some (.slice fM M.length cM) := by go_simp
    obtain ⟨p, hp⟩ : ∃ r, r = w1.heap.size := ⟨_, rfl⟩
    rw [← hp] at x0_2 ⊢
    replace hp := hid hp
    generalize w1.alloc (.cells #[.slice fM M.length cM] 26) = w2 at *
    obtain ⟨X, hX⟩ : ∃ q, q = crR M a n := ⟨_, rfl⟩
    obtain ⟨Q, hQ⟩ : ∃ q, q = crB M a n := ⟨_, rfl⟩
    replace hX := hid hX
    replace hQ := hid hQ
    go_wp2_with fail
    with_reducible refine (implCru_any (w0 := w1) (w := w2) hm ha hni).mono ?_
    rw [← hX.out, ← hQ.out]
    rintro e w3 ⟨dx, mx, rfl, own3, e3⟩
    have x0_3 := e3.cell x0_2
    have g3 : Ext w1 w3 := Ext.trans g2 e3
    clear x0_2
    go_wp2_with fail
    with_reducible refine (specCru_any (w0 := w1) (w := w3) hm ha hni).mono ?_
    rw [← hX.out, ← hQ.out]
    rintro e w4 ⟨dy, my, rfl, hY, e4⟩
    have x0_4 := e4.cell x0_3
    have g4 : Ext w1 w4 := Ext.trans g3 e4
    have hXi := (own3.ext (w' := w4)).reads' hY
    clear x0_3 own3
    have hQQ : (Q != Q) = false := by simp
    go_wp2_with fail
    with_reducible refine (vInts_same (w0 := w4) (w := w4) hXi hY).mono ?_
    rintro e w5 ⟨rfl, e5⟩
    have x0_5 := e5.cell x0_4
    have g5 : Ext w1 w5 := Ext.trans g4 e5
    have hX5 := hXi.ext (w' := w5)
    clear x0_4 hXi hY
    cases Q with
    | false =>
      go_wp2_with fail
      go_ret
      exact ⟨rfl, Ext.trans e1 g5⟩
    | true =>
      obtain ⟨hS, hl, hT, hno, hs1, hs2⟩ := cr_law hQ.out.symm
      rw [← hX.out] at hS hl hT hno hs1 hs2
      have hn60 := (crB_parts hQ.out.symm).2.2.1
      obtain ⟨nn, rfl⟩ := Int.eq_ofNat_of_zero_le hn60.1
      rw [Int.toNat_natCast] at hl hT hno
      replace hS := hid hS
      replace hT := hid hT
      replace hno := hid hno
      replace hl := hid hl
      have hm5 := hm.ext (w' := w5)
      have ha5 := ha.ext (w' := w5)
      obtain ⟨S, hSd⟩ : ∃ q, q = rrS M a X := ⟨_, rfl⟩
      rw [← hSd] at hs1 hs2
      replace hSd := hid hSd
      go_wp2_with fail
      with_reducible refine (implRun_any (w0 := w5) (w := w5) hm5 ha5 hX5).mono ?_
      rw [hS.out, ← hSd.out, hT.out]
      rintro e w6 ⟨dt, mt, vt, rfl, hvt, own6, e6⟩
      have g6 : Ext w1 w6 := Ext.trans g5 e6
      obtain ⟨hmB, hcB, _, hkn⟩ := crB_parts hQ.out.symm
      obtain ⟨h13, hpa, _⟩ := cfgB_iff.1 hcB
      have hmem := rnT_mem (dst_of_met hmB) h13.1 h13.2 (cfg_conf hcB rfl) (fun j hj => belowB_at (srvB_iff.1 hS.out).2.2.2 hj) (by rw [hl.out]; omega) (X := X) (i := nn) (by rw [hl.out]; exact Nat.le_refl _)
      have hn6 := (met_len hmB).2
      have hmb : ∀ r ∈ rnT M (confs M.length a.length 0) a X nn, r.length ≤ 3 ∧ ∀ x ∈ r, I64 x := fun r hr => by
        obtain ⟨h1, h2⟩ := confs_mem (hmem r hr)
        exact ⟨by omega, fun x hx => by have := h2 x hx; unfold I64; omega⟩
      have hTl := hid (rnT_len (M := M) (P := confs M.length a.length 0) (a := a) (X := X) (n := nn))
      have hTr := hid (fun t (ht : t < nn) => rnT_row (M := M) (P := confs M.length a.length 0) (a := a) (X := X) ht)
      have hno2 := hid (fun t (ht : t < nn) => hasB_false.2 (hno.out t ht))
      have hr0 := hid (show rnA M (confs M.length a.length 0) a X 0 = a from rfl)
      obtain ⟨f, hf⟩ : ∃ f, f = rnA M (confs M.length a.length 0) a X := ⟨_, rfl⟩
      rw [← hf] at hTr hno2 hr0
      clear hf
      generalize rnT M (confs M.length a.length 0) a X nn = T at *
      clear hmem hno
      have hTi : IsRows w6 (.slice dt T.length mt) T := by
        have h : Own w6 w5.heap.size (rowsOf 27 3 (.slice dt T.length mt) vt T ++ []) := by rw [List.append_nil]; exact own6
        exact Own.readsAll h hvt (by unfold ShortRows; rw [hTl.out]; omega) (fun r hr => by have := (hmb r hr).1; unfold Short; omega) (fun r hr => (hmb r hr).2)
      obtain ⟨dT, mT, hdT, _⟩ := hTi.form
      cases hdT
      have hX6 := hX5.ext (w' := w6)
      have ha6 : IsInts w6 (.slice da a.length ma) (f 0) := by rw [hr0.out]; exact ha5.ext
      have hTl2 : T.length ≤ 60 := by rw [hTl.out]; omega
      clear hmB hcB hkn h13 hpa hmb own6 hvt x0_5 hQQ
      have hXl60 : X.length ≤ 60 := by rw [hl.out]; omega
      replace hr0 := hid hr0
      go_wp2_with fail
      go_loopw [13, 14] (fun u i wr => ∃ t : Nat, t ≤ X.length ∧ i = .int .i64 t ∧ IsInts wr u (f t) ∧ Ext w6 wr) (fun _ i _ => X.length - (intOf i).toNat)
      case atStart => exact ⟨0, by omega, rfl, ha6, Ext.refl _⟩
      case round =>
        obtain ⟨t, ht, rfl, hu, hy⟩ := hrel
        obtain ⟨wq, rfl⟩ : ∃ y : World, y = wr := ⟨_, rfl⟩
        obtain ⟨du, mu, rfl, lu⟩ := hu.form
        by_cases hltt : t < X.length
        · obtain ⟨bx, ox, rfl, hcx⟩ := hX6.at (w' := wq) hltt
          have hltn : t < nn := by rw [← hl.out]; exact hltt
          have hltT : t < T.length := by rw [hTl.out]; exact hltn
          obtain ⟨bT, oT, dr, mr, hdT, hcT, hiT, _⟩ := hTi.at (w' := wq) hltT
          cases hdT
          have hhas := hid (hno2.out t hltn)
          rw [hTr.out t hltn] at hcT hiT
          have hiq := hiT.ext (w' := wq)
          generalize nth X t = x at *
          go_wp2_with fail
          with_reducible refine (vHas_any (w0 := wq) (w := wq) hu).mono ?_
          rw [hhas.out]
          rintro e w7 ⟨rfl, rfl⟩
          go_wp2_with fail
          go_roundw
          case rel => exact ⟨t + 1, by omega, by go_num, hiq, hy⟩
          case measure => simp [intOf]; omega
        · have hnl : ((X.length : Int) == (nn : Int)) = true := by rw [hl.out]; simp
          have hge : decide ((nn : Int) ≤ S) = true := decide_eq_true hs1
          go_wp2_with fail
          go_ret
          exact ⟨rfl, Ext.trans e1 (Ext.trans g6 hy)⟩
end Go.Proofs.YtmgcfnciejfpbaaGreat

/- Several texts in one (merge.py). -/
namespace Go.Proofs.YtmgcfnciejfpbaaGreat
open Go.RowKit
/- An argument that came in, read as bytes. -/
open Go.ChangeShapes Go.WideShapes Go.ChangeAt Go.RowKit Go.Deep Go.Joins

theorem Tryz.cellsByte : Tryz.prog.cellsOf 5 = 1 := by kernel_rfl
theorem isBytes_of_trod {H : Type} {enc : TypeId × Value → H} {w : World} {fuel : Nat} {v : Value} {x : DataW H × List MemPlace} (h : DataW.trod enc Tryz.prog w 0 (fun _ => true) true fuel 22 [v] = some x) : ∃ n, IsBytes w v n := by
  rcases open_ints Tryz.underlying22 Tryz.underlying5 Tryz.cellsByte h with ⟨hcs, _⟩ | ⟨a, l, c, zs, hcs, _, hl, hm, hz, hx, hcell, hwz⟩
  · simp only [List.cons.injEq, and_true] at hcs
    subst hcs
    exact ⟨0, none, 0, rfl, fun j hj => by omega⟩
  · simp only [List.cons.injEq, and_true] at hcs
    subst hcs
    have hz' : zs.length = c := by simpa using hz
    refine ⟨l, some a, c, rfl, fun j hj => ?_⟩
    have hc := hcell j (by omega)
    obtain ⟨b, o, rfl⟩ := spot_of_cell (hcell 0 (by omega))
    rw [addr_add_nil] at hc
    have hmem : zs.getD j 0 ∈ zs := by
      rw [List.getD_eq_getElem?_getD, List.getElem?_eq_getElem (by omega)]
      exact List.getElem_mem _
    have hwf := hwz _ hmem
    refine ⟨b, o, zs.getD j 0, rfl, hc, ?_⟩
    simp [Lit.wf] at hwf
    have h1 : IntKind.u8.min = 0 := by decide
    have h2 : IntKind.u8.max = 255 := by decide
    rw [h1, h2] at hwf
    rw [List.getD_eq_getElem?_getD]
    omega

/- The given statement of 'laws.FnCruelRequests', proved: for every input the law returns true, and each argument reads behind the call as it read before. -/
open Go.ChangeShapes Go.WideShapes Go.ChangeAt Go.RowKit

theorem closedFnCruelRequests : lawFacts Tryz.prog 4 Tryz.f4 Rows.fnCruelRequestsSpec Rows.fnCruelRequestsRow = true := by kernel_rfl

set_option maxRecDepth 100000 in
theorem liftedFnCruelRequests (os : Os) (started : os.Started) (H : Type) (enc : TypeId × Value → H) :
    ReturnsInHanded {} Tryz.checked os 4 .any (Rows.fnCruelRequestsSpec.pre6 enc Tryz.prog Tryz.f4 Rows.fnCruelRequestsRow.domain false) (Rows.fnCruelRequestsSpec.post enc Tryz.prog Tryz.f4 false true false false) := by
  refine returnsInHanded_of_change_sized (C := Tryz.checked) factOwn started (by kernel_rfl) Tryz.func4
    (ChangeSpec.witness6 (enc := enc) (C := Tryz.checked) false ⟨#[], #[.slice none 0 0], []⟩ 8 (by kernel_rfl) (by kernel_rfl) (by kernel_rfl) (by kernel_rfl)) ?_
  intro W base args ds gs before hval0 hW hcnd hsz0 _
  have hval : ∀ (j : Nat) t v, Tryz.f4.params[j]? = some t → args[j]? = some v → Value.okWide Tryz.prog W .any base t v := hval0
  have hsz : (DataW.weightsEach Tryz.prog (Tryz.f4.params.toList ++ Rows.fnCruelRequestsSpec.plain.varTypes Tryz.prog) (ds ++ gs)).all (· ≤ reachBytes) = true := hsz0
  have hW' := hW
  obtain ⟨p, q, hA0, hV, rfl, hfz, hnd⟩ := hW
  have hA : DataW.TrodAll enc Tryz.prog W 0 (fun _ => true) true Tryz.f4.params.toList args.toList ds p := hA0
  rw [Tryz.params4] at hA hval hsz
  obtain ⟨v0, vs0, d0, ds0, p0, q0, hargs, rfl, rfl, h0, r0⟩ := trodAll_cons hA
  obtain ⟨rfl, rfl, rfl⟩ := trodAll_nil r0
  obtain rfl : args = #[v0] := by cases args; simp_all
  obtain ⟨rfl, rfl⟩ := trodVars_none hV
  have k0 := h0
  have lt0 : ∀ x ∈ p0, x.block < W.heap.size := by obtain ⟨m, hm⟩ := k0; exact DataW.trod_lt m _ _ _ hm
  have hw0 := weights_of hsz (j := 0) (t := 22) (d := d0) rfl rfl
  obtain ⟨a, l, c, rfl⟩ := okWide_slice Tryz.underlying22 (hval 0 22 v0 rfl rfl)
  obtain ⟨x0, a0⟩ : ∃ x, IsBytes W (.slice a l c) x := by
    obtain ⟨fuel, hf⟩ := h0
    exact isBytes_of_trod hf
  clear hA0 hval0 hsz0
  refine (lawFnCruelRequests_any a0).mono fun e W' ⟨he, hext⟩ => ?_
  subst he
  have bel := hext.below
  exact ⟨_, rfl, _, _, _, [], _, [], hW', trodAll_mk1 (shut_bool Tryz.underlying4 _), (trodAll_cons_mk (Below.trod factLaid (by kernel_rfl) (of_decide_eq_true (by kernel_rfl)) k0 bel lt0) trodAll_mk0), rfl, bel.frame _, fun h => by cases h⟩

theorem holdsFnCruelRequests : Rows.FnCruelRequestsSaid :=
  OpenClaim.holds_of_wide 4 Tryz.f4 rfl rfl rfl rfl rfl rfl rfl ⟨rfl, rfl, rfl, rfl, rfl⟩ rfl rfl rfl rfl rfl (by kernel_rfl) Tryz.func4 (joined_here closedFnCruelRequests)
    (of_decide_eq_true (by kernel_rfl)) (by unfold Func.isWrapper; first | (rw [if_pos (by decide +kernel)]; kernel_rfl) | (rw [if_neg (by decide +kernel)]; exact ⟨rfl, rfl⟩))
    (fun os started H enc _ => liftedFnCruelRequests os started H enc)

#print axioms holdsFnCruelRequests

end Go.Proofs.YtmgcfnciejfpbaaGreat

