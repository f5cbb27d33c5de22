/- The choice of the work function algorithm, the program's. -/
import Derived.Test.YtmgcfnciejfpbaaGreatRSvS
import Derived.Test.YtmgcfnciejfpbaaGreatRGrF
namespace Go.Proofs.YtmgcfnciejfpbaaGreat
open Go.RowKit

theorem sv_yesI {M P : List (List Int)} {nx a : List Int} {r : Int} {s : Nat} (h : svN M P nx a r s < (svT M P nx a r s).2.2 ∨ (svN M P nx a r s = (svT M P nx a r s).2.2 ∧ lexC (svX a r s) (svT M P nx a r s).1 < 0)) : (svT M P nx a r (s + 1)).1 = svX a r s ∧ (svT M P nx a r (s + 1)).2.1 = cell M (nth a s).toNat r.toNat ∧ (svT M P nx a r (s + 1)).2.2 = svN M P nx a r s := by
  rw [svT_yes h]
  exact ⟨rfl, rfl, rfl⟩
set_option maxHeartbeats 3200000 in
set_option maxRecDepth 100000 in
theorem serve_any {v vx va : Value} {M : List (List Int)} {nx a : List Int} {k : Nat} {r L : Int} {w0 w : World} [Ext w0 w] (hW : IsWorks w0 v M (confs M.length k 0)) (hM : metB M = true) (hn : IsInts w0 vx nx) (ha : IsInts w0 va a) (h1k : 1 ≤ k) (hk : k ≤ 3) (hac : a ∈ confs M.length k 0) (hg : GoodW M (confs M.length k 0) nx L) (hL : L ≤ 2000000) (hr : 0 ≤ r ∧ r < (M.length : Int)) :
    Calls Tryz.prog 93 #[v, vx, va, .int .i64 r] w fun e w' => ∃ u, e = .returned (.tuple #[u, .int .i64 (svK M (confs M.length k 0) nx a r)]) ∧ Own w' w.heap.size [intRowOf 3 u (svC M (confs M.length k 0) nx a r)] ∧ Ext w w' := by
  obtain ⟨rn, rfl⟩ : ∃ rn : Nat, r = (rn : Int) := ⟨r.toNat, by omega⟩
  have hW' := hW
  obtain ⟨bx, mv, pv, cv, rfl, h0, h1, h2, hR, hP, hCs⟩ := hW
  obtain ⟨a1, c1, rfl, l1⟩ := hR.form
  clear h1 h2 hP hCs
  obtain ⟨dw, mw, rfl, lw⟩ := hn.form
  have ha' := ha
  obtain ⟨da, ma, rfl, la⟩ := ha.form
  have hMl := met_len hM
  have hMr := hid (fun (x : Nat) (hx : x < M.length) => met_row hM hx)
  have hdst := hid (dst_of_met hM)
  replace hM := hid hM
  have hrn : rn < M.length := by omega
  have hri := hid (show I64 (rn : Int) by unfold I64; omega)
  have hrp := hid hr
  clear hr
  obtain ⟨hak, _, hap0⟩ := confs_iff.1 hac
  have hap : Pts M.length a := fun x hx => by have := hap0 x hx; omega
  clear hap0
  have hasc := hid (confs_asc M.length k 0)
  have hSw := hid (show ∀ s, s < k → svX a rn s ∈ confs M.length k 0 from fun s hs => (set_conf hac hs hrp.out).1)
  have hNi := hid (fun (s : Nat) (hs : s < k) => svN_in hdst.out hg hac hs hrp.out)
  have hwb := hid (show ∀ j, j < (confs M.length k 0).length → 0 ≤ nth nx j ∧ nth nx j ≤ 2000000 from fun j hj => by have := hg.2 j hj; omega)
  have hlw := hid hg.1.1
  replace hg := hid hg
  replace hac := hid hac
  have h216 := confs_216 hMl.2 hk
  have hak3 : a.length ≤ 3 := by omega
  replace hak := hid hak
  obtain ⟨B, hB⟩ : ∃ b, b = w.heap.size := ⟨_, rfl⟩
  have hEx := hid (show ∀ u, Below B w u → Ext w u from fun u h => ⟨by rw [← hB]; exact h⟩)
  have hBl : ∀ u, Ext w u → B ≤ u.heap.size := fun u e => by rw [hB]; exact e.size
  replace hBl := hid hBl
  rw [← hB]
  replace hB := hid hB
  cases hh : hasB a rn with
  | true =>
    have hC := hid (show svC M (confs M.length k 0) nx a rn = a by rw [svC, hh]; rfl)
    have hK := hid (show svK M (confs M.length k 0) nx a rn = 0 by rw [svK, hh]; rfl)
    replace hh := hid hh
    go_enter Tryz.func93, Tryz.ntmps93
    go_wp2_with fail
    with_reducible refine (sContains_any (w0 := w0) ha').mono ?_
    rw [hh.out]
    rintro e w1 ⟨rfl, rfl⟩
    go_wp2_with fail
    with_reducible refine (cloneInts_any (w0 := w0) ha').mono ?_
    rintro e w2 ⟨d, m, rfl, own, e2⟩
    go_wp2_with fail
    go_ret2
    exact ⟨.slice d a.length m, ret_tuple2 rfl (by rw [hK.out]; rfl), by rw [hC.out, hB.out]; exact own, e2⟩
  | false =>
    have hC := hid (show svC M (confs M.length k 0) nx a rn = (svT M (confs M.length k 0) nx a rn a.length).1 by rw [svC, hh]; rfl)
    have hK := hid (show svK M (confs M.length k 0) nx a rn = (svT M (confs M.length k 0) nx a rn a.length).2.1 by rw [svK, hh]; rfl)
    replace hh := hid hh
    obtain ⟨P, hPd⟩ : ∃ p, p = confs M.length k 0 := ⟨_, rfl⟩
    rw [← hPd] at hSw hNi hwb hlw h216 hC hK hasc hW' ⊢
    replace hPd := hid hPd
    go_enter Tryz.func93, Tryz.ntmps93
    go_wp2_with fail
    with_reducible refine (sContains_any (w0 := w0) ha').mono ?_
    rw [hh.out]
    rintro e w1 ⟨rfl, rfl⟩
    go_wp2_with fail
    go_loopw [10, 11, 12, 24] (fun bv cv lv i wr => ∃ s : Nat, s ≤ a.length ∧ i = .int .i64 s ∧ lv = .int .i64 (svT M P nx a rn s).2.2 ∧ cv = .int .i64 (svT M P nx a rn s).2.1 ∧ Own wr B [intRowOf 3 bv (svT M P nx a rn s).1] ∧ Below B w wr) (fun _ _ _ i _ => a.length - (intOf i).toNat)
    case atStart => exact ⟨0, by omega, rfl, rfl, rfl, (Own.nil _ _).cons_nil _ _, Below.refl _ _⟩
    case round =>
      obtain ⟨s, hs, rfl, rfl, rfl, hown, hb⟩ := hrel
      obtain ⟨wo, rfl⟩ : ∃ y : World, y = wr := ⟨_, rfl⟩
      have hx : Ext w wo := hEx.out _ hb
      have hBo := hBl.out wo hx
      by_cases hlt : s < a.length
      · have hsk : s < k := by rw [← hak.out]; exact hlt
        have e0o : Ext w0 wo := Ext.trans ‹Ext w0 w› hx
        have hmem := hid (hSw.out s hsk)
        have htl := (atR_lt hmem.out).1
        obtain ⟨ba, oa, x, hd1, hxx, hxM, hca⟩ := ha.pt (w' := wo) hap (k := s) hlt
        cases hd1
        obtain ⟨bM, oM, dR, mR, hdM, hcM, hiR, _⟩ := hR.at (w' := wo) (k := x) hxM
        cases hdM
        have hRl : rn < (row M x).length := by rw [hMr.out x hxM]; exact hrn
        obtain ⟨bR, oR, hdR, hcR⟩ := hiR.at (w' := wo) (k := rn) hRl
        cases hdR
        have hswi := hid (show ∀ y ∈ svX a rn s, I64 y from pts_i64 (n := M.length) ((hap.set hrp.out).perm (sortL_perm _)) (by omega))
        have hmov := hid (show movL a (x : Int) rn = svX a rn s by rw [← hxx]; exact mov_sv hlt)
        have hxa := hid (show (x : Int) ∈ a by rw [← hxx]; exact nth_mem hlt)
        have hXl := hid (show (svX a rn s).length = a.length by rw [svX, sortL_len, List.length_set])
        obtain ⟨t, ht⟩ : ∃ t, t = atR P (svX a rn s) := ⟨_, rfl⟩
        rw [← ht] at htl
        have htw : t < nx.length := by rw [hlw.out]; exact htl
        obtain ⟨bw, ow, hdw, hcw⟩ := hn.at (w' := wo) htw
        cases hdw
        have x0q := (Ext.trans ‹Ext w0 w› hx).cell h0
        have hsum := hid (show svN M P nx a rn s = nth nx t + nth (row M x) rn by
          unfold svN
          rw [← ht, hxx]
          rfl)
        have hdcv := hid (show cell M (nth a s).toNat ((rn : Int)).toNat = nth (row M x) rn by rw [hxx]; rfl)
        have hq1 := hwb.out t htl
        have hq2 : 0 ≤ nth (row M x) rn ∧ nth (row M x) rn ≤ 99 := hdst.out.pos x rn hxM hrn
        have hy := hid (fun h => sv_yesI (M := M) (P := P) (nx := nx) (a := a) (r := rn) (s := s) h)
        have hz := hid (fun h => svT_no (M := M) (P := P) (nx := nx) (a := a) (r := rn) (s := s) h)
        have hbl : Hid (∀ y ∈ (svT M P nx a rn s).1, I64 y) := hid (by
          by_cases h0 : s = 0
          · subst h0; intro y hy; cases hy
          · obtain ⟨q, hq, h2⟩ := svT_at (M := M) (P := P) (nx := nx) (a := a) (r := rn) (s := s) (fun q hq => by
              have h1 := (hSw.out q (by omega))
              have h2 := hwb.out _ (atR_lt h1).1
              obtain ⟨_, _, y, _, hy, hyM, _⟩ := ha'.pt (w' := w) hap (k := q) (by omega)
              have h3 := hdst.out.pos y rn hyM hrn
              have h4 : cell M (nth a q).toNat ((rn : Int)).toNat = cell M y rn := by rw [hy]; rfl
              unfold svN
              rw [h4]
              omega) (by omega)
            rw [h2]
            exact pts_i64 (n := M.length) ((hap.set hrp.out).perm (sortL_perm _)) (by omega))
        have hbk : Hid ((svT M P nx a rn s).1.length ≤ 3) := hid (by
          by_cases h0 : s = 0
          · subst h0; simp [svT]
          · obtain ⟨q, hq, h2⟩ := svT_at (M := M) (P := P) (nx := nx) (a := a) (r := rn) (s := s) (fun q hq => by
              have h1 := (hSw.out q (by omega))
              have h2 := hwb.out _ (atR_lt h1).1
              obtain ⟨_, _, y, _, hy, hyM, _⟩ := ha'.pt (w' := w) hap (k := q) (by omega)
              have h3 := hdst.out.pos y rn hyM hrn
              have h4 : cell M (nth a q).toNat ((rn : Int)).toNat = cell M y rn := by rw [hy]; rfl
              unfold svN
              rw [h4]
              omega) (by omega)
            rw [h2]
            show (svX a rn q).length ≤ 3
            rw [svX, sortL_len, List.length_set]
            exact hak3)
        rw [hsum.out, hdcv.out] at hy
        rw [hsum.out] at hz
        have hat := hid ht.symm
        replace ht := hid ht
        replace hxx := hid hxx
        obtain ⟨T, hT⟩ : ∃ T, T = svT M P nx a rn s := ⟨_, rfl⟩
        rw [← hT] at hown hy hz hbl hbk ⊢
        replace hT := hid hT
        obtain ⟨bl, cst, bs⟩ := T
        simp only at hown hy hz hbl hbk ⊢
        obtain ⟨wt, hwt⟩ : ∃ y, y = nth nx t := ⟨_, rfl⟩
        rw [← hwt] at hcw hy hz hq1
        replace hwt := hid hwt
        obtain ⟨dc, hdc⟩ : ∃ y, y = nth (row M x) rn := ⟨_, rfl⟩
        rw [← hdc] at hcR hy hz hq2
        replace hdc := hid hdc
        obtain ⟨Rx, hRx⟩ : ∃ y, y = row M x := ⟨_, rfl⟩
        rw [← hRx] at hcM hiR hRl
        replace hRx := hid hRx
        obtain ⟨X, hX⟩ : ∃ X, X = svX a rn s := ⟨_, rfl⟩
        rw [← hX] at hy hz hmem hat hswi hmov hXl
        replace hX := hid hX
        have hbv : IsInts wo _ bl := hown.reads (by unfold Short; have := hbk.out; omega) hbl.out
        obtain ⟨db, nb, mb, rfl, hnb⟩ := own_formN hown
        have hs1 : IntKind.i64.wrap (wt + dc) = wt + dc := IntWalk.i64_in _ (by omega)
        go_wp2_with fail
        with_reducible refine (moved_any (w0 := w0) ha' hxa.out hri.out).mono ?_
        rw [hmov.out]
        rintro e w5 ⟨d5, m5, rfl, own5', e5⟩
        have own5 := own5'.mono hBo
        clear own5'
        have hB5 : B ≤ w5.heap.size := Nat.le_trans hBo e5.size
        have e05 : Ext w0 w5 := Ext.trans e0o e5
        have hU : IsInts w5 (.slice d5 a.length m5) X := own5.reads (by unfold Short; rw [hXl.out]; omega) hswi.out
        have hb5 := hbv.ext (w' := w5)
        have hSx := hid (show ∀ u, Ext w5 u → u.cell? ⟨bw, ow + t, none⟩ = some (.int .i64 wt) ∧ u.cell? ⟨bx, 0, none⟩ = some (.slice (some ⟨bM, oM, none⟩) M.length c1) ∧ u.cell? ⟨bM, oM + x, none⟩ = some (.slice (some ⟨bR, oR, none⟩) Rx.length mR) ∧ u.cell? ⟨bR, oR + rn, none⟩ = some (.int .i64 dc) from fun u e => ⟨(Ext.trans e5 e).cell hcw, (Ext.trans e5 e).cell x0q, (Ext.trans e5 e).cell hcM, (Ext.trans e5 e).cell hcR⟩)
        clear hcw x0q hca hcM hcR
        by_cases hl1 : wt + dc < bs
        · have hl1' : decide (wt + dc < bs) = true := decide_eq_true hl1
          have hyes := hid (hy.out (.inl hl1))
          clear hy hz
          go_wp2_with fail
          refine region_held_from (w0 := w5) (S := fun u => u.cell? ⟨bw, ow + t, none⟩ = some (.int .i64 wt) ∧ u.cell? ⟨bx, 0, none⟩ = some (.slice (some ⟨bM, oM, none⟩) M.length c1) ∧ u.cell? ⟨bM, oM + x, none⟩ = some (.slice (some ⟨bR, oR, none⟩) Rx.length mR) ∧ u.cell? ⟨bR, oR + rn, none⟩ = some (.int .i64 dc)) (by kernel_rfl) hSx.out (fun wd ed hHeld0 => ?_)
          refine wpAnyH_take (i := 0) (v := .slice (some ⟨bw, ow, none⟩) nx.length mw) rfl (by kernel_rfl) (by kernel_rfl) (by kernel_rfl) (fun _ _ _ h => h) (Or.inl ⟨by rfl, by intro wx hx; go_simp⟩) (by assumption) ?_
          try simp only [List.getElem_toArray, List.getElem_cons_zero, Act.put, List.setIfInBounds_toArray, List.set_cons_zero, List.set_cons_succ]
          refine wpAnyH_take (i := 1) (v := .pointer (some ⟨bx, 0, none⟩)) rfl (by kernel_rfl) (by kernel_rfl) (by kernel_rfl) (fun _ _ _ h => h) (Or.inl ⟨by rfl, by intro wx hx; go_simp⟩) (by assumption) ?_
          try simp only [List.getElem_toArray, List.getElem_cons_succ, List.getElem_cons_zero, Act.put, List.setIfInBounds_toArray, List.set_cons_zero, List.set_cons_succ]
          refine wpAnyH_take (i := 2) (v := .slice d5 a.length m5) rfl (by kernel_rfl) (by kernel_rfl) (by kernel_rfl) (fun _ _ _ h => h) (Or.inl ⟨by rfl, by intro wx hx; go_simp⟩) (by assumption) ?_
          try simp only [List.getElem_toArray, List.getElem_cons_succ, List.getElem_cons_zero, Act.put, List.setIfInBounds_toArray, List.set_cons_zero, List.set_cons_succ]
          refine wpAnyH_take (i := 6) (v := .pointer (some ⟨bx, 0, none⟩)) rfl (by kernel_rfl) (by kernel_rfl) (by kernel_rfl) (fun _ _ _ h => h) (Or.inl ⟨by rfl, by intro wx hx; go_simp⟩) (by assumption) ?_
          try simp only [List.getElem_toArray, List.getElem_cons_succ, List.getElem_cons_zero, Act.put, List.setIfInBounds_toArray, List.set_cons_zero, List.set_cons_succ]
          refine wpAnyH_take (i := 7) (v := .pointer (some ⟨bx, 0, none⟩)) rfl (by kernel_rfl) (by kernel_rfl) (by kernel_rfl) (fun _ _ _ h => h) (Or.inl ⟨by rfl, by intro wx hx; go_simp⟩) (by assumption) ?_
          try simp only [List.getElem_toArray, List.getElem_cons_succ, List.getElem_cons_zero, Act.put, List.setIfInBounds_toArray, List.set_cons_zero, List.set_cons_succ]
          refine wpAnyH_take (i := 8) (v := .pointer (some ⟨bx, 0, none⟩)) rfl (by kernel_rfl) (by kernel_rfl) (by kernel_rfl) (fun _ _ _ h => h) (Or.inl ⟨by rfl, by intro wx hx; go_simp⟩) (by assumption) ?_
          try simp only [List.getElem_toArray, List.getElem_cons_succ, List.getElem_cons_zero, Act.put, List.setIfInBounds_toArray, List.set_cons_zero, List.set_cons_succ]
          refine wpAnyH_take (i := 9) (v := .pointer (some ⟨bx, 0, none⟩)) rfl (by kernel_rfl) (by kernel_rfl) (by kernel_rfl) (fun _ _ _ h => h) (Or.inl ⟨by rfl, by intro wx hx; go_simp⟩) (by assumption) ?_
          try simp only [List.getElem_toArray, List.getElem_cons_succ, List.getElem_cons_zero, Act.put, List.setIfInBounds_toArray, List.set_cons_zero, List.set_cons_succ]
          refine wpAnyH_take (i := 10) (v := .slice (some ⟨bM, oM, none⟩) M.length c1) rfl (by kernel_rfl) (by kernel_rfl) (by kernel_rfl) (fun _ _ _ h => h) (Or.inl ⟨by rfl, by intro wx hx; obtain ⟨_, _, _, _⟩ := hx; go_simp⟩) (by assumption) ?_
          try simp only [List.getElem_toArray, List.getElem_cons_succ, List.getElem_cons_zero, Act.put, List.setIfInBounds_toArray, List.set_cons_zero, List.set_cons_succ]
          refine wpAnyH_take (i := 11) (v := .int .i64 x) rfl (by kernel_rfl) (by kernel_rfl) (by kernel_rfl) (fun _ _ _ h => h) (Or.inl ⟨by rfl, by intro wx hx; go_simp⟩) (by assumption) ?_
          try simp only [List.getElem_toArray, List.getElem_cons_succ, List.getElem_cons_zero, Act.put, List.setIfInBounds_toArray, List.set_cons_zero, List.set_cons_succ]
          refine wpAnyH_take (i := 12) (v := .pointer (some ⟨bM, oM + x, none⟩)) rfl (by kernel_rfl) (by kernel_rfl) (by kernel_rfl) (fun _ _ _ h => h) (Or.inl ⟨by rfl, by intro wx hx; go_simp⟩) (by assumption) ?_
          try simp only [List.getElem_toArray, List.getElem_cons_succ, List.getElem_cons_zero, Act.put, List.setIfInBounds_toArray, List.set_cons_zero, List.set_cons_succ]
          refine wpAnyH_take (i := 13) (v := .slice (some ⟨bR, oR, none⟩) Rx.length mR) rfl (by kernel_rfl) (by kernel_rfl) (by kernel_rfl) (fun _ _ _ h => h) (Or.inl ⟨by rfl, by intro wx hx; obtain ⟨_, _, _, _⟩ := hx; go_simp⟩) (by assumption) ?_
          try simp only [List.getElem_toArray, List.getElem_cons_succ, List.getElem_cons_zero, Act.put, List.setIfInBounds_toArray, List.set_cons_zero, List.set_cons_succ]
          refine wpAnyH_take (i := 14) (v := .int .i64 rn) rfl (by kernel_rfl) (by kernel_rfl) (by kernel_rfl) (fun _ _ _ h => h) (Or.inl ⟨by rfl, by intro wx hx; go_simp⟩) (by assumption) ?_
          try simp only [List.getElem_toArray, List.getElem_cons_succ, List.getElem_cons_zero, Act.put, List.setIfInBounds_toArray, List.set_cons_zero, List.set_cons_succ]
          refine wpAnyH_take (i := 15) (v := .pointer (some ⟨bR, oR + rn, none⟩)) rfl (by kernel_rfl) (by kernel_rfl) (by kernel_rfl) (fun _ _ _ h => h) (Or.inl ⟨by rfl, by intro wx hx; go_simp⟩) (by assumption) ?_
          try simp only [List.getElem_toArray, List.getElem_cons_succ, List.getElem_cons_zero, Act.put, List.setIfInBounds_toArray, List.set_cons_zero, List.set_cons_succ]
          refine wpAnyH_take (i := 16) (v := .int .i64 dc) rfl (by kernel_rfl) (by kernel_rfl) (by kernel_rfl) (fun _ _ _ h => h) (Or.inl ⟨by rfl, by intro wx hx; obtain ⟨_, _, _, _⟩ := hx; go_simp⟩) (by assumption) ?_
          try simp only [List.getElem_toArray, List.getElem_cons_succ, List.getElem_cons_zero, Act.put, List.setIfInBounds_toArray, List.set_cons_zero, List.set_cons_succ]
          refine wpAnyH_ready (rs := [3]) (by kernel_rfl) (by simp) ?_
          refine AllReadyH.cons rfl (fun K hK => ?_) AllReadyH.nil
          go_simp
          go_at_call 79
          refine (index_any (w0 := wd) (w := wd) (hW'.ext (e := Ext.trans e05 ed)) (hU.ext (e := ed)) hasc.out hmem.out (by omega)).mono ?_
          rw [hat.out]
          rintro e w6 ⟨rfl, rfl⟩
          have hS6 := hSx.out wd ed
          go_wp2_with fail
          refine hK.out _ _ hS6 (fun _ => ?_)
          clear hK K
          try simp only [List.getElem_toArray, List.getElem_cons_succ, List.getElem_cons_zero, Act.put, List.setIfInBounds_toArray, List.set_cons_zero, List.set_cons_succ]
          refine wpAnyH_take (i := 4) (v := .pointer (some ⟨bw, ow + t, none⟩)) rfl (by kernel_rfl) (by kernel_rfl) (by kernel_rfl) (fun _ _ _ h => h) (Or.inl ⟨by rfl, by intro wx hx; go_simp⟩) (by assumption) ?_
          try simp only [List.getElem_toArray, List.getElem_cons_succ, List.getElem_cons_zero, Act.put, List.setIfInBounds_toArray, List.set_cons_zero, List.set_cons_succ]
          refine wpAnyH_take (i := 5) (v := .int .i64 wt) rfl (by kernel_rfl) (by kernel_rfl) (by kernel_rfl) (fun _ _ _ h => h) (Or.inl ⟨by rfl, by intro wx hx; obtain ⟨_, _, _, _⟩ := hx; go_simp⟩) (by assumption) ?_
          try simp only [List.getElem_toArray, List.getElem_cons_succ, List.getElem_cons_zero, Act.put, List.setIfInBounds_toArray, List.set_cons_zero, List.set_cons_succ]
          refine wpAnyH_take (i := 17) (v := .int .i64 (wt + dc)) rfl (by kernel_rfl) (by kernel_rfl) (by kernel_rfl) (fun _ _ _ h => h) (Or.inl ⟨by rfl, by intro wx hx; go_simp⟩) (by assumption) ?_
          try simp only [List.getElem_toArray, List.getElem_cons_succ, List.getElem_cons_zero, Act.put, List.setIfInBounds_toArray, List.set_cons_zero, List.set_cons_succ]
          refine wpAnyH_take (i := 18) (v := .int .i64 (wt + dc)) rfl (by kernel_rfl) (by kernel_rfl) (by kernel_rfl) (fun _ _ _ h => h) (Or.inl ⟨by rfl, by intro wx hx; go_simp⟩) (by assumption) ?_
          try simp only [List.getElem_toArray, List.getElem_cons_succ, List.getElem_cons_zero, Act.put, List.setIfInBounds_toArray, List.set_cons_zero, List.set_cons_succ]
          refine wpAnyH_done (by kernel_rfl) ?_ _
          obtain ⟨k1, k2, k3, k4⟩ := hS6
          have hbd : Below B w wd := (hb.trans (e5.below.mono hBo)).trans (ed.below.mono hB5)
          have own6 := own5.ext (w' := wd)
          have ob6 := (hown.ext (w' := w5)).ext (w' := wd)
          go_wp2_with (go_quiet (fail))
          go_roundw
          case rel => exact ⟨s + 1, by omega, by go_num, by rw [hyes.out.2.2], by rw [hyes.out.2.1], by rw [hyes.out.1]; exact own6.ext, ext_below hbd (Nat.le_trans hB5 ed.size)⟩
          case measure => simp [intOf]; omega
        · have hl1' : decide (wt + dc < bs) = false := decide_eq_false hl1
          by_cases hl2 : wt + dc = bs
          · have hl2' : (wt + dc == bs) = true := by simpa using hl2
            cases hlx : decide (lexC X bl < 0) with
            | true =>
              have hyes := hid (hy.out (.inr ⟨hl2, of_decide_eq_true hlx⟩))
              have hlx2 : lexC X bl < 0 := of_decide_eq_true hlx
              clear hy hz
              replace hl2 := hid hl2
              go_wp2_with fail
              refine region_held_from (w0 := w5) (S := fun u => u.cell? ⟨bw, ow + t, none⟩ = some (.int .i64 wt) ∧ u.cell? ⟨bx, 0, none⟩ = some (.slice (some ⟨bM, oM, none⟩) M.length c1) ∧ u.cell? ⟨bM, oM + x, none⟩ = some (.slice (some ⟨bR, oR, none⟩) Rx.length mR) ∧ u.cell? ⟨bR, oR + rn, none⟩ = some (.int .i64 dc)) (by kernel_rfl) hSx.out (fun wd ed hHeld0 => ?_)
              refine wpAnyH_take (i := 0) (v := .slice (some ⟨bw, ow, none⟩) nx.length mw) rfl (by kernel_rfl) (by kernel_rfl) (by kernel_rfl) (fun _ _ _ h => h) (Or.inl ⟨by rfl, by intro wx hx; go_simp⟩) (by assumption) ?_
              try simp only [List.getElem_toArray, List.getElem_cons_zero, Act.put, List.setIfInBounds_toArray, List.set_cons_zero, List.set_cons_succ]
              refine wpAnyH_take (i := 1) (v := .pointer (some ⟨bx, 0, none⟩)) rfl (by kernel_rfl) (by kernel_rfl) (by kernel_rfl) (fun _ _ _ h => h) (Or.inl ⟨by rfl, by intro wx hx; go_simp⟩) (by assumption) ?_
              try simp only [List.getElem_toArray, List.getElem_cons_succ, List.getElem_cons_zero, Act.put, List.setIfInBounds_toArray, List.set_cons_zero, List.set_cons_succ]
              refine wpAnyH_take (i := 2) (v := .slice d5 a.length m5) rfl (by kernel_rfl) (by kernel_rfl) (by kernel_rfl) (fun _ _ _ h => h) (Or.inl ⟨by rfl, by intro wx hx; go_simp⟩) (by assumption) ?_
              try simp only [List.getElem_toArray, List.getElem_cons_succ, List.getElem_cons_zero, Act.put, List.setIfInBounds_toArray, List.set_cons_zero, List.set_cons_succ]
              refine wpAnyH_take (i := 6) (v := .pointer (some ⟨bx, 0, none⟩)) rfl (by kernel_rfl) (by kernel_rfl) (by kernel_rfl) (fun _ _ _ h => h) (Or.inl ⟨by rfl, by intro wx hx; go_simp⟩) (by assumption) ?_
              try simp only [List.getElem_toArray, List.getElem_cons_succ, List.getElem_cons_zero, Act.put, List.setIfInBounds_toArray, List.set_cons_zero, List.set_cons_succ]
              refine wpAnyH_take (i := 7) (v := .pointer (some ⟨bx, 0, none⟩)) rfl (by kernel_rfl) (by kernel_rfl) (by kernel_rfl) (fun _ _ _ h => h) (Or.inl ⟨by rfl, by intro wx hx; go_simp⟩) (by assumption) ?_
              try simp only [List.getElem_toArray, List.getElem_cons_succ, List.getElem_cons_zero, Act.put, List.setIfInBounds_toArray, List.set_cons_zero, List.set_cons_succ]
              refine wpAnyH_take (i := 8) (v := .pointer (some ⟨bx, 0, none⟩)) rfl (by kernel_rfl) (by kernel_rfl) (by kernel_rfl) (fun _ _ _ h => h) (Or.inl ⟨by rfl, by intro wx hx; go_simp⟩) (by assumption) ?_
              try simp only [List.getElem_toArray, List.getElem_cons_succ, List.getElem_cons_zero, Act.put, List.setIfInBounds_toArray, List.set_cons_zero, List.set_cons_succ]
              refine wpAnyH_take (i := 9) (v := .pointer (some ⟨bx, 0, none⟩)) rfl (by kernel_rfl) (by kernel_rfl) (by kernel_rfl) (fun _ _ _ h => h) (Or.inl ⟨by rfl, by intro wx hx; go_simp⟩) (by assumption) ?_
              try simp only [List.getElem_toArray, List.getElem_cons_succ, List.getElem_cons_zero, Act.put, List.setIfInBounds_toArray, List.set_cons_zero, List.set_cons_succ]
              refine wpAnyH_take (i := 10) (v := .slice (some ⟨bM, oM, none⟩) M.length c1) rfl (by kernel_rfl) (by kernel_rfl) (by kernel_rfl) (fun _ _ _ h => h) (Or.inl ⟨by rfl, by intro wx hx; obtain ⟨_, _, _, _⟩ := hx; go_simp⟩) (by assumption) ?_
              try simp only [List.getElem_toArray, List.getElem_cons_succ, List.getElem_cons_zero, Act.put, List.setIfInBounds_toArray, List.set_cons_zero, List.set_cons_succ]
              refine wpAnyH_take (i := 11) (v := .int .i64 x) rfl (by kernel_rfl) (by kernel_rfl) (by kernel_rfl) (fun _ _ _ h => h) (Or.inl ⟨by rfl, by intro wx hx; go_simp⟩) (by assumption) ?_
              try simp only [List.getElem_toArray, List.getElem_cons_succ, List.getElem_cons_zero, Act.put, List.setIfInBounds_toArray, List.set_cons_zero, List.set_cons_succ]
              refine wpAnyH_take (i := 12) (v := .pointer (some ⟨bM, oM + x, none⟩)) rfl (by kernel_rfl) (by kernel_rfl) (by kernel_rfl) (fun _ _ _ h => h) (Or.inl ⟨by rfl, by intro wx hx; go_simp⟩) (by assumption) ?_
              try simp only [List.getElem_toArray, List.getElem_cons_succ, List.getElem_cons_zero, Act.put, List.setIfInBounds_toArray, List.set_cons_zero, List.set_cons_succ]
              refine wpAnyH_take (i := 13) (v := .slice (some ⟨bR, oR, none⟩) Rx.length mR) rfl (by kernel_rfl) (by kernel_rfl) (by kernel_rfl) (fun _ _ _ h => h) (Or.inl ⟨by rfl, by intro wx hx; obtain ⟨_, _, _, _⟩ := hx; go_simp⟩) (by assumption) ?_
              try simp only [List.getElem_toArray, List.getElem_cons_succ, List.getElem_cons_zero, Act.put, List.setIfInBounds_toArray, List.set_cons_zero, List.set_cons_succ]
              refine wpAnyH_take (i := 14) (v := .int .i64 rn) rfl (by kernel_rfl) (by kernel_rfl) (by kernel_rfl) (fun _ _ _ h => h) (Or.inl ⟨by rfl, by intro wx hx; go_simp⟩) (by assumption) ?_
              try simp only [List.getElem_toArray, List.getElem_cons_succ, List.getElem_cons_zero, Act.put, List.setIfInBounds_toArray, List.set_cons_zero, List.set_cons_succ]
              refine wpAnyH_take (i := 15) (v := .pointer (some ⟨bR, oR + rn, none⟩)) rfl (by kernel_rfl) (by kernel_rfl) (by kernel_rfl) (fun _ _ _ h => h) (Or.inl ⟨by rfl, by intro wx hx; go_simp⟩) (by assumption) ?_
              try simp only [List.getElem_toArray, List.getElem_cons_succ, List.getElem_cons_zero, Act.put, List.setIfInBounds_toArray, List.set_cons_zero, List.set_cons_succ]
              refine wpAnyH_take (i := 16) (v := .int .i64 dc) rfl (by kernel_rfl) (by kernel_rfl) (by kernel_rfl) (fun _ _ _ h => h) (Or.inl ⟨by rfl, by intro wx hx; obtain ⟨_, _, _, _⟩ := hx; go_simp⟩) (by assumption) ?_
              try simp only [List.getElem_toArray, List.getElem_cons_succ, List.getElem_cons_zero, Act.put, List.setIfInBounds_toArray, List.set_cons_zero, List.set_cons_succ]
              refine wpAnyH_ready (rs := [3]) (by kernel_rfl) (by simp) ?_
              refine AllReadyH.cons rfl (fun K hK => ?_) AllReadyH.nil
              go_simp
              go_at_call 79
              refine (index_any (w0 := wd) (w := wd) (hW'.ext (e := Ext.trans e05 ed)) (hU.ext (e := ed)) hasc.out hmem.out (by omega)).mono ?_
              rw [hat.out]
              rintro e w6 ⟨rfl, rfl⟩
              have hS6 := hSx.out wd ed
              go_wp2_with fail
              refine hK.out _ _ hS6 (fun _ => ?_)
              clear hK K
              try simp only [List.getElem_toArray, List.getElem_cons_succ, List.getElem_cons_zero, Act.put, List.setIfInBounds_toArray, List.set_cons_zero, List.set_cons_succ]
              refine wpAnyH_take (i := 4) (v := .pointer (some ⟨bw, ow + t, none⟩)) rfl (by kernel_rfl) (by kernel_rfl) (by kernel_rfl) (fun _ _ _ h => h) (Or.inl ⟨by rfl, by intro wx hx; go_simp⟩) (by assumption) ?_
              try simp only [List.getElem_toArray, List.getElem_cons_succ, List.getElem_cons_zero, Act.put, List.setIfInBounds_toArray, List.set_cons_zero, List.set_cons_succ]
              refine wpAnyH_take (i := 5) (v := .int .i64 wt) rfl (by kernel_rfl) (by kernel_rfl) (by kernel_rfl) (fun _ _ _ h => h) (Or.inl ⟨by rfl, by intro wx hx; obtain ⟨_, _, _, _⟩ := hx; go_simp⟩) (by assumption) ?_
              try simp only [List.getElem_toArray, List.getElem_cons_succ, List.getElem_cons_zero, Act.put, List.setIfInBounds_toArray, List.set_cons_zero, List.set_cons_succ]
              refine wpAnyH_take (i := 17) (v := .int .i64 (wt + dc)) rfl (by kernel_rfl) (by kernel_rfl) (by kernel_rfl) (fun _ _ _ h => h) (Or.inl ⟨by rfl, by intro wx hx; go_simp⟩) (by assumption) ?_
              try simp only [List.getElem_toArray, List.getElem_cons_succ, List.getElem_cons_zero, Act.put, List.setIfInBounds_toArray, List.set_cons_zero, List.set_cons_succ]
              refine wpAnyH_take (i := 18) (v := .int .i64 (wt + dc)) rfl (by kernel_rfl) (by kernel_rfl) (by kernel_rfl) (fun _ _ _ h => h) (Or.inl ⟨by rfl, by intro wx hx; go_simp⟩) (by assumption) ?_
              try simp only [List.getElem_toArray, List.getElem_cons_succ, List.getElem_cons_zero, Act.put, List.setIfInBounds_toArray, List.set_cons_zero, List.set_cons_succ]
              refine wpAnyH_done (by kernel_rfl) ?_ _
              obtain ⟨k1, k2, k3, k4⟩ := hS6
              have hbd : Below B w wd := (hb.trans (e5.below.mono hBo)).trans (ed.below.mono hB5)
              have own6 := own5.ext (w' := wd)
              have ob6 := (hown.ext (w' := w5)).ext (w' := wd)
              go_wp2_with fail
              with_reducible refine (sCompare_any (w0 := w5) hU hb5).mono ?_
              rintro e w7 ⟨rfl, rfl⟩
              go_wp2_with (go_quiet (fail))
              go_roundw
              case rel => exact ⟨s + 1, by omega, by go_num, by rw [hyes.out.2.2], by rw [hyes.out.2.1], by rw [hyes.out.1]; exact own6.ext, ext_below hbd (Nat.le_trans hB5 ed.size)⟩
              case measure => simp [intOf]; omega
            | false =>
              have hno := hid (hz.out (by rintro (h | ⟨_, h⟩); omega; exact of_decide_eq_false hlx h))
              have hlx2 : ¬ lexC X bl < 0 := of_decide_eq_false hlx
              clear hy hz
              replace hl2 := hid hl2
              go_wp2_with fail
              refine region_held_from (w0 := w5) (S := fun u => u.cell? ⟨bw, ow + t, none⟩ = some (.int .i64 wt) ∧ u.cell? ⟨bx, 0, none⟩ = some (.slice (some ⟨bM, oM, none⟩) M.length c1) ∧ u.cell? ⟨bM, oM + x, none⟩ = some (.slice (some ⟨bR, oR, none⟩) Rx.length mR) ∧ u.cell? ⟨bR, oR + rn, none⟩ = some (.int .i64 dc)) (by kernel_rfl) hSx.out (fun wd ed hHeld0 => ?_)
              refine wpAnyH_take (i := 0) (v := .slice (some ⟨bw, ow, none⟩) nx.length mw) rfl (by kernel_rfl) (by kernel_rfl) (by kernel_rfl) (fun _ _ _ h => h) (Or.inl ⟨by rfl, by intro wx hx; go_simp⟩) (by assumption) ?_
              try simp only [List.getElem_toArray, List.getElem_cons_zero, Act.put, List.setIfInBounds_toArray, List.set_cons_zero, List.set_cons_succ]
              refine wpAnyH_take (i := 1) (v := .pointer (some ⟨bx, 0, none⟩)) rfl (by kernel_rfl) (by kernel_rfl) (by kernel_rfl) (fun _ _ _ h => h) (Or.inl ⟨by rfl, by intro wx hx; go_simp⟩) (by assumption) ?_
              try simp only [List.getElem_toArray, List.getElem_cons_succ, List.getElem_cons_zero, Act.put, List.setIfInBounds_toArray, List.set_cons_zero, List.set_cons_succ]
              refine wpAnyH_take (i := 2) (v := .slice d5 a.length m5) rfl (by kernel_rfl) (by kernel_rfl) (by kernel_rfl) (fun _ _ _ h => h) (Or.inl ⟨by rfl, by intro wx hx; go_simp⟩) (by assumption) ?_
              try simp only [List.getElem_toArray, List.getElem_cons_succ, List.getElem_cons_zero, Act.put, List.setIfInBounds_toArray, List.set_cons_zero, List.set_cons_succ]
              refine wpAnyH_take (i := 6) (v := .pointer (some ⟨bx, 0, none⟩)) rfl (by kernel_rfl) (by kernel_rfl) (by kernel_rfl) (fun _ _ _ h => h) (Or.inl ⟨by rfl, by intro wx hx; go_simp⟩) (by assumption) ?_
              try simp only [List.getElem_toArray, List.getElem_cons_succ, List.getElem_cons_zero, Act.put, List.setIfInBounds_toArray, List.set_cons_zero, List.set_cons_succ]
              refine wpAnyH_take (i := 7) (v := .pointer (some ⟨bx, 0, none⟩)) rfl (by kernel_rfl) (by kernel_rfl) (by kernel_rfl) (fun _ _ _ h => h) (Or.inl ⟨by rfl, by intro wx hx; go_simp⟩) (by assumption) ?_
              try simp only [List.getElem_toArray, List.getElem_cons_succ, List.getElem_cons_zero, Act.put, List.setIfInBounds_toArray, List.set_cons_zero, List.set_cons_succ]
              refine wpAnyH_take (i := 8) (v := .pointer (some ⟨bx, 0, none⟩)) rfl (by kernel_rfl) (by kernel_rfl) (by kernel_rfl) (fun _ _ _ h => h) (Or.inl ⟨by rfl, by intro wx hx; go_simp⟩) (by assumption) ?_
              try simp only [List.getElem_toArray, List.getElem_cons_succ, List.getElem_cons_zero, Act.put, List.setIfInBounds_toArray, List.set_cons_zero, List.set_cons_succ]
              refine wpAnyH_take (i := 9) (v := .pointer (some ⟨bx, 0, none⟩)) rfl (by kernel_rfl) (by kernel_rfl) (by kernel_rfl) (fun _ _ _ h => h) (Or.inl ⟨by rfl, by intro wx hx; go_simp⟩) (by assumption) ?_
              try simp only [List.getElem_toArray, List.getElem_cons_succ, List.getElem_cons_zero, Act.put, List.setIfInBounds_toArray, List.set_cons_zero, List.set_cons_succ]
              refine wpAnyH_take (i := 10) (v := .slice (some ⟨bM, oM, none⟩) M.length c1) rfl (by kernel_rfl) (by kernel_rfl) (by kernel_rfl) (fun _ _ _ h => h) (Or.inl ⟨by rfl, by intro wx hx; obtain ⟨_, _, _, _⟩ := hx; go_simp⟩) (by assumption) ?_
              try simp only [List.getElem_toArray, List.getElem_cons_succ, List.getElem_cons_zero, Act.put, List.setIfInBounds_toArray, List.set_cons_zero, List.set_cons_succ]
              refine wpAnyH_take (i := 11) (v := .int .i64 x) rfl (by kernel_rfl) (by kernel_rfl) (by kernel_rfl) (fun _ _ _ h => h) (Or.inl ⟨by rfl, by intro wx hx; go_simp⟩) (by assumption) ?_
              try simp only [List.getElem_toArray, List.getElem_cons_succ, List.getElem_cons_zero, Act.put, List.setIfInBounds_toArray, List.set_cons_zero, List.set_cons_succ]
              refine wpAnyH_take (i := 12) (v := .pointer (some ⟨bM, oM + x, none⟩)) rfl (by kernel_rfl) (by kernel_rfl) (by kernel_rfl) (fun _ _ _ h => h) (Or.inl ⟨by rfl, by intro wx hx; go_simp⟩) (by assumption) ?_
              try simp only [List.getElem_toArray, List.getElem_cons_succ, List.getElem_cons_zero, Act.put, List.setIfInBounds_toArray, List.set_cons_zero, List.set_cons_succ]
              refine wpAnyH_take (i := 13) (v := .slice (some ⟨bR, oR, none⟩) Rx.length mR) rfl (by kernel_rfl) (by kernel_rfl) (by kernel_rfl) (fun _ _ _ h => h) (Or.inl ⟨by rfl, by intro wx hx; obtain ⟨_, _, _, _⟩ := hx; go_simp⟩) (by assumption) ?_
              try simp only [List.getElem_toArray, List.getElem_cons_succ, List.getElem_cons_zero, Act.put, List.setIfInBounds_toArray, List.set_cons_zero, List.set_cons_succ]
              refine wpAnyH_take (i := 14) (v := .int .i64 rn) rfl (by kernel_rfl) (by kernel_rfl) (by kernel_rfl) (fun _ _ _ h => h) (Or.inl ⟨by rfl, by intro wx hx; go_simp⟩) (by assumption) ?_
              try simp only [List.getElem_toArray, List.getElem_cons_succ, List.getElem_cons_zero, Act.put, List.setIfInBounds_toArray, List.set_cons_zero, List.set_cons_succ]
              refine wpAnyH_take (i := 15) (v := .pointer (some ⟨bR, oR + rn, none⟩)) rfl (by kernel_rfl) (by kernel_rfl) (by kernel_rfl) (fun _ _ _ h => h) (Or.inl ⟨by rfl, by intro wx hx; go_simp⟩) (by assumption) ?_
              try simp only [List.getElem_toArray, List.getElem_cons_succ, List.getElem_cons_zero, Act.put, List.setIfInBounds_toArray, List.set_cons_zero, List.set_cons_succ]
              refine wpAnyH_take (i := 16) (v := .int .i64 dc) rfl (by kernel_rfl) (by kernel_rfl) (by kernel_rfl) (fun _ _ _ h => h) (Or.inl ⟨by rfl, by intro wx hx; obtain ⟨_, _, _, _⟩ := hx; go_simp⟩) (by assumption) ?_
              try simp only [List.getElem_toArray, List.getElem_cons_succ, List.getElem_cons_zero, Act.put, List.setIfInBounds_toArray, List.set_cons_zero, List.set_cons_succ]
              refine wpAnyH_ready (rs := [3]) (by kernel_rfl) (by simp) ?_
              refine AllReadyH.cons rfl (fun K hK => ?_) AllReadyH.nil
              go_simp
              go_at_call 79
              refine (index_any (w0 := wd) (w := wd) (hW'.ext (e := Ext.trans e05 ed)) (hU.ext (e := ed)) hasc.out hmem.out (by omega)).mono ?_
              rw [hat.out]
              rintro e w6 ⟨rfl, rfl⟩
              have hS6 := hSx.out wd ed
              go_wp2_with fail
              refine hK.out _ _ hS6 (fun _ => ?_)
              clear hK K
              try simp only [List.getElem_toArray, List.getElem_cons_succ, List.getElem_cons_zero, Act.put, List.setIfInBounds_toArray, List.set_cons_zero, List.set_cons_succ]
              refine wpAnyH_take (i := 4) (v := .pointer (some ⟨bw, ow + t, none⟩)) rfl (by kernel_rfl) (by kernel_rfl) (by kernel_rfl) (fun _ _ _ h => h) (Or.inl ⟨by rfl, by intro wx hx; go_simp⟩) (by assumption) ?_
              try simp only [List.getElem_toArray, List.getElem_cons_succ, List.getElem_cons_zero, Act.put, List.setIfInBounds_toArray, List.set_cons_zero, List.set_cons_succ]
              refine wpAnyH_take (i := 5) (v := .int .i64 wt) rfl (by kernel_rfl) (by kernel_rfl) (by kernel_rfl) (fun _ _ _ h => h) (Or.inl ⟨by rfl, by intro wx hx; obtain ⟨_, _, _, _⟩ := hx; go_simp⟩) (by assumption) ?_
              try simp only [List.getElem_toArray, List.getElem_cons_succ, List.getElem_cons_zero, Act.put, List.setIfInBounds_toArray, List.set_cons_zero, List.set_cons_succ]
              refine wpAnyH_take (i := 17) (v := .int .i64 (wt + dc)) rfl (by kernel_rfl) (by kernel_rfl) (by kernel_rfl) (fun _ _ _ h => h) (Or.inl ⟨by rfl, by intro wx hx; go_simp⟩) (by assumption) ?_
              try simp only [List.getElem_toArray, List.getElem_cons_succ, List.getElem_cons_zero, Act.put, List.setIfInBounds_toArray, List.set_cons_zero, List.set_cons_succ]
              refine wpAnyH_take (i := 18) (v := .int .i64 (wt + dc)) rfl (by kernel_rfl) (by kernel_rfl) (by kernel_rfl) (fun _ _ _ h => h) (Or.inl ⟨by rfl, by intro wx hx; go_simp⟩) (by assumption) ?_
              try simp only [List.getElem_toArray, List.getElem_cons_succ, List.getElem_cons_zero, Act.put, List.setIfInBounds_toArray, List.set_cons_zero, List.set_cons_succ]
              refine wpAnyH_done (by kernel_rfl) ?_ _
              obtain ⟨k1, k2, k3, k4⟩ := hS6
              have hbd : Below B w wd := (hb.trans (e5.below.mono hBo)).trans (ed.below.mono hB5)
              have own6 := own5.ext (w' := wd)
              have ob6 := (hown.ext (w' := w5)).ext (w' := wd)
              go_wp2_with fail
              with_reducible refine (sCompare_any (w0 := w5) hU hb5).mono ?_
              rintro e w7 ⟨rfl, rfl⟩
              go_wp2_with fail
              go_roundw
              case rel => exact ⟨s + 1, by omega, by go_num, by rw [hno.out], by rw [hno.out], by rw [hno.out]; exact ob6, hbd⟩
              case measure => simp [intOf]; omega
          · have hl2' : (wt + dc == bs) = false := by simpa using hl2
            have hno := hid (hz.out (by rintro (h | ⟨h, _⟩); omega; exact hl2 h))
            clear hy hz
            replace hl2 := hid hl2
            go_wp2_with fail
            refine region_held_from (w0 := w5) (S := fun u => u.cell? ⟨bw, ow + t, none⟩ = some (.int .i64 wt) ∧ u.cell? ⟨bx, 0, none⟩ = some (.slice (some ⟨bM, oM, none⟩) M.length c1) ∧ u.cell? ⟨bM, oM + x, none⟩ = some (.slice (some ⟨bR, oR, none⟩) Rx.length mR) ∧ u.cell? ⟨bR, oR + rn, none⟩ = some (.int .i64 dc)) (by kernel_rfl) hSx.out (fun wd ed hHeld0 => ?_)
            refine wpAnyH_take (i := 0) (v := .slice (some ⟨bw, ow, none⟩) nx.length mw) rfl (by kernel_rfl) (by kernel_rfl) (by kernel_rfl) (fun _ _ _ h => h) (Or.inl ⟨by rfl, by intro wx hx; go_simp⟩) (by assumption) ?_
            try simp only [List.getElem_toArray, List.getElem_cons_zero, Act.put, List.setIfInBounds_toArray, List.set_cons_zero, List.set_cons_succ]
            refine wpAnyH_take (i := 1) (v := .pointer (some ⟨bx, 0, none⟩)) rfl (by kernel_rfl) (by kernel_rfl) (by kernel_rfl) (fun _ _ _ h => h) (Or.inl ⟨by rfl, by intro wx hx; go_simp⟩) (by assumption) ?_
            try simp only [List.getElem_toArray, List.getElem_cons_succ, List.getElem_cons_zero, Act.put, List.setIfInBounds_toArray, List.set_cons_zero, List.set_cons_succ]
            refine wpAnyH_take (i := 2) (v := .slice d5 a.length m5) rfl (by kernel_rfl) (by kernel_rfl) (by kernel_rfl) (fun _ _ _ h => h) (Or.inl ⟨by rfl, by intro wx hx; go_simp⟩) (by assumption) ?_
            try simp only [List.getElem_toArray, List.getElem_cons_succ, List.getElem_cons_zero, Act.put, List.setIfInBounds_toArray, List.set_cons_zero, List.set_cons_succ]
            refine wpAnyH_take (i := 6) (v := .pointer (some ⟨bx, 0, none⟩)) rfl (by kernel_rfl) (by kernel_rfl) (by kernel_rfl) (fun _ _ _ h => h) (Or.inl ⟨by rfl, by intro wx hx; go_simp⟩) (by assumption) ?_
            try simp only [List.getElem_toArray, List.getElem_cons_succ, List.getElem_cons_zero, Act.put, List.setIfInBounds_toArray, List.set_cons_zero, List.set_cons_succ]
            refine wpAnyH_take (i := 7) (v := .pointer (some ⟨bx, 0, none⟩)) rfl (by kernel_rfl) (by kernel_rfl) (by kernel_rfl) (fun _ _ _ h => h) (Or.inl ⟨by rfl, by intro wx hx; go_simp⟩) (by assumption) ?_
            try simp only [List.getElem_toArray, List.getElem_cons_succ, List.getElem_cons_zero, Act.put, List.setIfInBounds_toArray, List.set_cons_zero, List.set_cons_succ]
            refine wpAnyH_take (i := 8) (v := .pointer (some ⟨bx, 0, none⟩)) rfl (by kernel_rfl) (by kernel_rfl) (by kernel_rfl) (fun _ _ _ h => h) (Or.inl ⟨by rfl, by intro wx hx; go_simp⟩) (by assumption) ?_
            try simp only [List.getElem_toArray, List.getElem_cons_succ, List.getElem_cons_zero, Act.put, List.setIfInBounds_toArray, List.set_cons_zero, List.set_cons_succ]
            refine wpAnyH_take (i := 9) (v := .pointer (some ⟨bx, 0, none⟩)) rfl (by kernel_rfl) (by kernel_rfl) (by kernel_rfl) (fun _ _ _ h => h) (Or.inl ⟨by rfl, by intro wx hx; go_simp⟩) (by assumption) ?_
            try simp only [List.getElem_toArray, List.getElem_cons_succ, List.getElem_cons_zero, Act.put, List.setIfInBounds_toArray, List.set_cons_zero, List.set_cons_succ]
            refine wpAnyH_take (i := 10) (v := .slice (some ⟨bM, oM, none⟩) M.length c1) rfl (by kernel_rfl) (by kernel_rfl) (by kernel_rfl) (fun _ _ _ h => h) (Or.inl ⟨by rfl, by intro wx hx; obtain ⟨_, _, _, _⟩ := hx; go_simp⟩) (by assumption) ?_
            try simp only [List.getElem_toArray, List.getElem_cons_succ, List.getElem_cons_zero, Act.put, List.setIfInBounds_toArray, List.set_cons_zero, List.set_cons_succ]
            refine wpAnyH_take (i := 11) (v := .int .i64 x) rfl (by kernel_rfl) (by kernel_rfl) (by kernel_rfl) (fun _ _ _ h => h) (Or.inl ⟨by rfl, by intro wx hx; go_simp⟩) (by assumption) ?_
            try simp only [List.getElem_toArray, List.getElem_cons_succ, List.getElem_cons_zero, Act.put, List.setIfInBounds_toArray, List.set_cons_zero, List.set_cons_succ]
            refine wpAnyH_take (i := 12) (v := .pointer (some ⟨bM, oM + x, none⟩)) rfl (by kernel_rfl) (by kernel_rfl) (by kernel_rfl) (fun _ _ _ h => h) (Or.inl ⟨by rfl, by intro wx hx; go_simp⟩) (by assumption) ?_
            try simp only [List.getElem_toArray, List.getElem_cons_succ, List.getElem_cons_zero, Act.put, List.setIfInBounds_toArray, List.set_cons_zero, List.set_cons_succ]
            refine wpAnyH_take (i := 13) (v := .slice (some ⟨bR, oR, none⟩) Rx.length mR) rfl (by kernel_rfl) (by kernel_rfl) (by kernel_rfl) (fun _ _ _ h => h) (Or.inl ⟨by rfl, by intro wx hx; obtain ⟨_, _, _, _⟩ := hx; go_simp⟩) (by assumption) ?_
            try simp only [List.getElem_toArray, List.getElem_cons_succ, List.getElem_cons_zero, Act.put, List.setIfInBounds_toArray, List.set_cons_zero, List.set_cons_succ]
            refine wpAnyH_take (i := 14) (v := .int .i64 rn) rfl (by kernel_rfl) (by kernel_rfl) (by kernel_rfl) (fun _ _ _ h => h) (Or.inl ⟨by rfl, by intro wx hx; go_simp⟩) (by assumption) ?_
            try simp only [List.getElem_toArray, List.getElem_cons_succ, List.getElem_cons_zero, Act.put, List.setIfInBounds_toArray, List.set_cons_zero, List.set_cons_succ]
            refine wpAnyH_take (i := 15) (v := .pointer (some ⟨bR, oR + rn, none⟩)) rfl (by kernel_rfl) (by kernel_rfl) (by kernel_rfl) (fun _ _ _ h => h) (Or.inl ⟨by rfl, by intro wx hx; go_simp⟩) (by assumption) ?_
            try simp only [List.getElem_toArray, List.getElem_cons_succ, List.getElem_cons_zero, Act.put, List.setIfInBounds_toArray, List.set_cons_zero, List.set_cons_succ]
            refine wpAnyH_take (i := 16) (v := .int .i64 dc) rfl (by kernel_rfl) (by kernel_rfl) (by kernel_rfl) (fun _ _ _ h => h) (Or.inl ⟨by rfl, by intro wx hx; obtain ⟨_, _, _, _⟩ := hx; go_simp⟩) (by assumption) ?_
            try simp only [List.getElem_toArray, List.getElem_cons_succ, List.getElem_cons_zero, Act.put, List.setIfInBounds_toArray, List.set_cons_zero, List.set_cons_succ]
            refine wpAnyH_ready (rs := [3]) (by kernel_rfl) (by simp) ?_
            refine AllReadyH.cons rfl (fun K hK => ?_) AllReadyH.nil
            go_simp
            go_at_call 79
            refine (index_any (w0 := wd) (w := wd) (hW'.ext (e := Ext.trans e05 ed)) (hU.ext (e := ed)) hasc.out hmem.out (by omega)).mono ?_
            rw [hat.out]
            rintro e w6 ⟨rfl, rfl⟩
            have hS6 := hSx.out wd ed
            go_wp2_with fail
            refine hK.out _ _ hS6 (fun _ => ?_)
            clear hK K
            try simp only [List.getElem_toArray, List.getElem_cons_succ, List.getElem_cons_zero, Act.put, List.setIfInBounds_toArray, List.set_cons_zero, List.set_cons_succ]
            refine wpAnyH_take (i := 4) (v := .pointer (some ⟨bw, ow + t, none⟩)) rfl (by kernel_rfl) (by kernel_rfl) (by kernel_rfl) (fun _ _ _ h => h) (Or.inl ⟨by rfl, by intro wx hx; go_simp⟩) (by assumption) ?_
            try simp only [List.getElem_toArray, List.getElem_cons_succ, List.getElem_cons_zero, Act.put, List.setIfInBounds_toArray, List.set_cons_zero, List.set_cons_succ]
            refine wpAnyH_take (i := 5) (v := .int .i64 wt) rfl (by kernel_rfl) (by kernel_rfl) (by kernel_rfl) (fun _ _ _ h => h) (Or.inl ⟨by rfl, by intro wx hx; obtain ⟨_, _, _, _⟩ := hx; go_simp⟩) (by assumption) ?_
            try simp only [List.getElem_toArray, List.getElem_cons_succ, List.getElem_cons_zero, Act.put, List.setIfInBounds_toArray, List.set_cons_zero, List.set_cons_succ]
            refine wpAnyH_take (i := 17) (v := .int .i64 (wt + dc)) rfl (by kernel_rfl) (by kernel_rfl) (by kernel_rfl) (fun _ _ _ h => h) (Or.inl ⟨by rfl, by intro wx hx; go_simp⟩) (by assumption) ?_
            try simp only [List.getElem_toArray, List.getElem_cons_succ, List.getElem_cons_zero, Act.put, List.setIfInBounds_toArray, List.set_cons_zero, List.set_cons_succ]
            refine wpAnyH_take (i := 18) (v := .int .i64 (wt + dc)) rfl (by kernel_rfl) (by kernel_rfl) (by kernel_rfl) (fun _ _ _ h => h) (Or.inl ⟨by rfl, by intro wx hx; go_simp⟩) (by assumption) ?_
            try simp only [List.getElem_toArray, List.getElem_cons_succ, List.getElem_cons_zero, Act.put, List.setIfInBounds_toArray, List.set_cons_zero, List.set_cons_succ]
            refine wpAnyH_done (by kernel_rfl) ?_ _
            obtain ⟨k1, k2, k3, k4⟩ := hS6
            have hbd : Below B w wd := (hb.trans (e5.below.mono hBo)).trans (ed.below.mono hB5)
            have own6 := own5.ext (w' := wd)
            have ob6 := (hown.ext (w' := w5)).ext (w' := wd)
            go_wp2_with fail
            go_roundw
            case rel => exact ⟨s + 1, by omega, by go_num, by rw [hno.out], by rw [hno.out], by rw [hno.out]; exact ob6, hbd⟩
            case measure => simp [intOf]; omega
      · have hsl : s = a.length := by omega
        have hfin := hid (show (svT M P nx a rn s).1 = svC M P nx a rn ∧ (svT M P nx a rn s).2.1 = svK M P nx a rn by
          rw [hsl, hC.out, hK.out]; exact ⟨rfl, rfl⟩)
        rw [hfin.out.1] at hown
        rw [hfin.out.2]
        replace hsl := hid hsl
        go_wp2_with fail
        go_ret2
        exact ⟨_, rfl, hown, hx⟩
end Go.Proofs.YtmgcfnciejfpbaaGreat
