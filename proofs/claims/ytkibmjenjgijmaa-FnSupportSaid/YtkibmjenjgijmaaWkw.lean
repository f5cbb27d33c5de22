/- Whether a list is a work list: the reference's test. -/
import Derived.Test.YtkibmjenjgijmaaGrF
import Derived.Test.YtkibmjenjgijmaaGrG
import Derived.Test.YtkibmjenjgijmaaGrK
namespace Go.Proofs.Ytkibmjenjgijmaa
open Go.RowKit

theorem inB_below {x : Int} : inB x 0 99999 = inB x 0 (100000 - 1) := rfl
set_option maxHeartbeats 3200000 in
set_option maxRecDepth 100000 in
theorem l7Work_any {v vP vw : Value} {M P : List (List Int)} {ws : List Int} {k : Nat} {w0 w : World} [Ext w0 w] (hm : IsMet w0 v M) (hM : metB M = true) (hP : IsRows w0 vP P) (hw : IsInts w0 vw ws) (hl : P.length ≤ 1000) (hk : k ≤ 3) (hPm : ∀ r ∈ P, r.length = k ∧ Pts M.length r) :
    Calls Try.prog 99 #[v, vP, vw] w fun e w' => e = .returned (.bool (workB M P ws)) ∧ Ext w w' := by
  have hm' := hm
  obtain ⟨v1, rfl, hR⟩ := hm
  obtain ⟨a1, c1, rfl, l1⟩ := hR.form
  have hdst := hid (dst_of_met hM)
  have hM' := hid hM
  clear hM
  have hw' := hw
  obtain ⟨dw, mw, rfl, lw⟩ := hw.form
  have hPf := hP
  obtain ⟨aP, cP, rfl, lP⟩ := hP.form
  replace hPm := hid hPm
  by_cases hlen : ws.length = P.length
  · have hn1 : ((ws.length : Int) != (P.length : Int)) = false := by rw [hlen]; simp
    replace hlen := hid hlen
    go_enter Try.func99, Try.ntmps99
    go_upto_region 4 with fail
    have e1 : Ext w (w.alloc (.cells #[.slice a1 M.length c1] 26)) := inferInstance
    have x0 : (w.alloc (.cells #[.slice a1 M.length c1] 26)).cell? ⟨w.heap.size, 0, none⟩ = some (.slice a1 M.length c1) := by go_simp
    generalize w.heap.size = bx at *
    generalize w.alloc (.cells #[.slice a1 M.length c1] 26) = w1 at *
    have e01 : Ext w0 w1 := Ext.trans ‹Ext w0 w› e1
    go_wp2_with fail
    go_loop [7] (fun i => ∃ p : Nat, p ≤ ws.length ∧ i = .int .i64 p ∧ Hid (∀ j, j < p → inB (nth ws j) 0 (100000 - 1) = true)) (fun i => ws.length - (intOf i).toNat)
    case atStart => exact ⟨0, by omega, rfl, fun j hj => by omega⟩
    case round =>
      obtain ⟨p, hp, rfl, hno⟩ := hrel
      by_cases hlt : p < ws.length
      · obtain ⟨bw, ow, hdw, hcw⟩ := hw'.at (w' := w1) hlt
        cases hdw
        cases hb : inB (nth ws p) 0 99999 with
        | false =>
          have hr := hid (show workB M P ws = false by simp [workB, belowB_not hlt (show inB (nth ws p) 0 (100000 - 1) = false from hb)])
          replace hb := hid hb
          go_wp2_with fail
          with_reducible refine (l1In_any _ _ _ _).mono ?_
          rw [hb.out]
          rintro e w2 ⟨rfl, rfl⟩
          go_wp2_with fail
          go_ret
          exact ⟨ret_bool hr.out.symm, e1⟩
        | true =>
          have hno2 := hid (show ∀ j, j < p + 1 → inB (nth ws j) 0 (100000 - 1) = true from fun j hj => by
            by_cases e : j = p
            · rw [e]; exact hb
            · exact hno.out j (by omega))
          replace hb := hid hb
          go_wp2_with fail
          with_reducible refine (l1In_any _ _ _ _).mono ?_
          rw [hb.out]
          rintro e w2 ⟨rfl, rfl⟩
          go_wp2_with fail
          go_round
          case rel => exact ⟨p + 1, by omega, by go_num, hno2.out⟩
          case measure => simp [intOf]; omega
      · have hbl := hid (show belowB 100000 ws = true from belowB_of fun j hj => hno.out j (by omega))
        have hbel := hid (fun k hk => belowB_at hbl.out (k := k) hk)
        go_wp2_with fail
        go_loopw [8] (fun i wr => ∃ p : Nat, p ≤ ws.length ∧ i = .int .i64 p ∧ Hid (∀ i, i < p → ∀ j, j < i → nth ws i - nth ws j ≤ mvC M (row P i) (row P j) ∧ nth ws j - nth ws i ≤ mvC M (row P i) (row P j)) ∧ Ext w1 wr) (fun i _ => ws.length - (intOf i).toNat)
        case atStart => exact ⟨0, by omega, rfl, fun i hi => by omega, Ext.refl _⟩
        case round =>
          obtain ⟨p, hp, rfl, hno, hx⟩ := hrel
          obtain ⟨wo, rfl⟩ : ∃ y : World, y = wr := ⟨_, rfl⟩
          by_cases hlt : p < ws.length
          · go_wp2_with fail
            go_loopw [9] (fun i wr => ∃ q : Nat, q ≤ p ∧ i = .int .i64 q ∧ Hid (∀ j, j < q → nth ws p - nth ws j ≤ mvC M (row P p) (row P j) ∧ nth ws j - nth ws p ≤ mvC M (row P p) (row P j)) ∧ Ext w1 wr) (fun i _ => p - (intOf i).toNat)
            case atStart => exact ⟨0, by omega, rfl, fun i hi => by omega, hx⟩
            case round =>
              obtain ⟨q, hq, rfl, hno2, hy⟩ := hrel
              obtain ⟨wq, rfl⟩ : ∃ y : World, y = wr := ⟨_, rfl⟩
              by_cases hltq : q < p
              · have hltw : q < ws.length := by omega
                have e0q : Ext w0 wq := Ext.trans e01 hy
                obtain ⟨bw, ow, hdw, hcp⟩ := hw'.at (w' := wq) hlt
                cases hdw
                obtain ⟨bw2, ow2, hdw2, hcq⟩ := hw'.at (w' := wq) hltw
                cases hdw2
                have hpP : p < P.length := by rw [← hlen.out]; exact hlt
                have hqP : q < P.length := by rw [← hlen.out]; exact hltw
                obtain ⟨bp, op, d1, m1, hdP, hc1, hi1, _⟩ := hPf.at (w' := wq) hpP
                cases hdP
                obtain ⟨bp2, op2, d2, m2, hdP2, hc2, hi2, _⟩ := hPf.at (w' := wq) hqP
                cases hdP2
                have hr1 := hid (hPm.out _ (row_mem hpP))
                have hr2 := hid (hPm.out _ (row_mem hqP))
                have hbx1 := hbel.out p hlt
                have hby1 := hbel.out q hltw
                have hnext := hid (fun (h : ¬ mvC M (row P p) (row P q) < max (nth ws p - nth ws q) (nth ws q - nth ws p)) => show ∀ j, j < q + 1 → nth ws p - nth ws j ≤ mvC M (row P p) (row P j) ∧ nth ws j - nth ws p ≤ mvC M (row P p) (row P j) from fun j hj => by
                  by_cases e : j = q
                  · rw [e]; omega
                  · exact hno2.out j (by omega))
                have hbad := hid (fun (h : mvC M (row P p) (row P q) < max (nth ws p - nth ws q) (nth ws q - nth ws p)) => show workB M P ws = false by
                  have hl : lipB M P ws = false := by
                    by_cases h1 : mvC M (row P p) (row P q) < nth ws p - nth ws q
                    · exact lipB_not hlt hltw h1
                    · refine lipB_not hltw hlt ?_
                      rw [mvC_symm hdst.out hr1.out.2 hr2.out.2 (by rw [hr1.out.1, hr2.out.1]) (by rw [hr1.out.1]; omega)]
                      omega
                  simp [workB, hl])
                have hmi := hid (mvC_in hdst.out hr1.out.2 hr2.out.2 (by rw [hr1.out.1, hr2.out.1]) (by rw [hr1.out.1]; omega))
                obtain ⟨r1, hr1d⟩ : ∃ r, r = row P p := ⟨_, rfl⟩
                obtain ⟨r2, hr2d⟩ : ∃ r, r = row P q := ⟨_, rfl⟩
                obtain ⟨x, hxd⟩ : ∃ x, x = nth ws p := ⟨_, rfl⟩
                obtain ⟨y, hyd⟩ : ∃ y, y = nth ws q := ⟨_, rfl⟩
                rw [← hr1d] at hc1 hi1 hr1 hbad hmi
                rw [← hr2d] at hc2 hi2 hr2
                rw [← hr2d, ← hxd, ← hyd] at hbad
                rw [← hr2d] at hmi
                rw [← hxd] at hcp hbx1
                rw [← hyd] at hcq hby1
                replace hr1d := hid hr1d
                replace hr2d := hid hr2d
                replace hxd := hid hxd
                replace hyd := hid hyd
                have x0q := hy.cell x0
                have hSx := hid (show ∀ u, Ext wq u → u.cell? ⟨bw, ow + p, none⟩ = some (.int .i64 x) ∧ u.cell? ⟨bw, ow + q, none⟩ = some (.int .i64 y) ∧ u.cell? ⟨bx, 0, none⟩ = some (.slice a1 M.length c1) ∧ u.cell? ⟨bp, op + p, none⟩ = some (.slice d1 r1.length m1) ∧ u.cell? ⟨bp, op + q, none⟩ = some (.slice d2 r2.length m2) from fun u e => ⟨e.cell hcp, e.cell hcq, e.cell x0q, e.cell hc1, e.cell hc2⟩)
                have hs1 : IntKind.i64.wrap (x - y) = x - y := IntWalk.i64_in _ (by omega)
                have hs2 : IntKind.i64.wrap (y - x) = y - x := IntWalk.i64_in _ (by omega)
                clear hcp hcq hc1 hc2
                go_wp2_with fail
                by_cases hg : mvC M r1 r2 < max (x - y) (y - x)
                · have hr := hid (hbad.out hg)
                  have hgd : decide (mvC M r1 r2 < max (x - y) (y - x)) = true := decide_eq_true hg
                  replace hg := hid hg
                  refine region_held_from (w0 := wq) (S := fun u => u.cell? ⟨bw, ow + p, none⟩ = some (.int .i64 x) ∧ u.cell? ⟨bw, ow + q, none⟩ = some (.int .i64 y) ∧ u.cell? ⟨bx, 0, none⟩ = some (.slice a1 M.length c1) ∧ u.cell? ⟨bp, op + p, none⟩ = some (.slice d1 r1.length m1) ∧ u.cell? ⟨bp, op + q, none⟩ = some (.slice d2 r2.length m2)) (by kernel_rfl) hSx.out (fun wd ed hHeld0 => ?_)
                  have e0d : Ext w0 wd := Ext.trans e0q ed
                  refine wpAnyH_take (i := 0) (v := .slice (some ⟨bw, ow, none⟩) ws.length mw) rfl (by kernel_rfl) (by kernel_rfl) (by kernel_rfl) (fun _ _ _ h => h) (Or.inl ⟨by rfl, by intro wx hx; go_simp⟩) (by assumption) ?_
                  try simp only [List.getElem_toArray, List.getElem_cons_zero, Act.put, List.setIfInBounds_toArray, List.set_cons_zero, List.set_cons_succ]
                  refine wpAnyH_take (i := 1) (v := .int .i64 p) rfl (by kernel_rfl) (by kernel_rfl) (by kernel_rfl) (fun _ _ _ h => h) (Or.inl ⟨by rfl, by intro wx hx; go_simp⟩) (by assumption) ?_
                  try simp only [List.getElem_toArray, List.getElem_cons_succ, List.getElem_cons_zero, Act.put, List.setIfInBounds_toArray, List.set_cons_zero, List.set_cons_succ]
                  refine wpAnyH_take (i := 2) (v := .pointer (some ⟨bw, ow + p, none⟩)) rfl (by kernel_rfl) (by kernel_rfl) (by kernel_rfl) (fun _ _ _ h => h) (Or.inl ⟨by rfl, by intro wx hx; go_simp⟩) (by assumption) ?_
                  try simp only [List.getElem_toArray, List.getElem_cons_succ, List.getElem_cons_zero, Act.put, List.setIfInBounds_toArray, List.set_cons_zero, List.set_cons_succ]
                  refine wpAnyH_take (i := 3) (v := .int .i64 x) rfl (by kernel_rfl) (by kernel_rfl) (by kernel_rfl) (fun _ _ _ h => h) (Or.inl ⟨by rfl, by intro wx hx; obtain ⟨_, _, _, _, _⟩ := hx; go_simp⟩) (by assumption) ?_
                  try simp only [List.getElem_toArray, List.getElem_cons_succ, List.getElem_cons_zero, Act.put, List.setIfInBounds_toArray, List.set_cons_zero, List.set_cons_succ]
                  refine wpAnyH_take (i := 4) (v := .slice (some ⟨bw, ow, none⟩) ws.length mw) rfl (by kernel_rfl) (by kernel_rfl) (by kernel_rfl) (fun _ _ _ h => h) (Or.inl ⟨by rfl, by intro wx hx; go_simp⟩) (by assumption) ?_
                  try simp only [List.getElem_toArray, List.getElem_cons_succ, List.getElem_cons_zero, Act.put, List.setIfInBounds_toArray, List.set_cons_zero, List.set_cons_succ]
                  refine wpAnyH_take (i := 5) (v := .int .i64 q) rfl (by kernel_rfl) (by kernel_rfl) (by kernel_rfl) (fun _ _ _ h => h) (Or.inl ⟨by rfl, by intro wx hx; go_simp⟩) (by assumption) ?_
                  try simp only [List.getElem_toArray, List.getElem_cons_succ, List.getElem_cons_zero, Act.put, List.setIfInBounds_toArray, List.set_cons_zero, List.set_cons_succ]
                  refine wpAnyH_take (i := 6) (v := .pointer (some ⟨bw, ow + q, none⟩)) rfl (by kernel_rfl) (by kernel_rfl) (by kernel_rfl) (fun _ _ _ h => h) (Or.inl ⟨by rfl, by intro wx hx; go_simp⟩) (by assumption) ?_
                  try simp only [List.getElem_toArray, List.getElem_cons_succ, List.getElem_cons_zero, Act.put, List.setIfInBounds_toArray, List.set_cons_zero, List.set_cons_succ]
                  refine wpAnyH_take (i := 7) (v := .int .i64 y) rfl (by kernel_rfl) (by kernel_rfl) (by kernel_rfl) (fun _ _ _ h => h) (Or.inl ⟨by rfl, by intro wx hx; obtain ⟨_, _, _, _, _⟩ := hx; go_simp⟩) (by assumption) ?_
                  try simp only [List.getElem_toArray, List.getElem_cons_succ, List.getElem_cons_zero, Act.put, List.setIfInBounds_toArray, List.set_cons_zero, List.set_cons_succ]
                  refine wpAnyH_take (i := 8) (v := .int .i64 (x - y)) rfl (by kernel_rfl) (by kernel_rfl) (by kernel_rfl) (fun _ _ _ h => h) (Or.inl ⟨by rfl, by intro wx hx; go_simp⟩) (by assumption) ?_
                  try simp only [List.getElem_toArray, List.getElem_cons_succ, List.getElem_cons_zero, Act.put, List.setIfInBounds_toArray, List.set_cons_zero, List.set_cons_succ]
                  refine wpAnyH_take (i := 9) (v := .slice (some ⟨bw, ow, none⟩) ws.length mw) rfl (by kernel_rfl) (by kernel_rfl) (by kernel_rfl) (fun _ _ _ h => h) (Or.inl ⟨by rfl, by intro wx hx; go_simp⟩) (by assumption) ?_
                  try simp only [List.getElem_toArray, List.getElem_cons_succ, List.getElem_cons_zero, Act.put, List.setIfInBounds_toArray, List.set_cons_zero, List.set_cons_succ]
                  refine wpAnyH_take (i := 10) (v := .int .i64 q) rfl (by kernel_rfl) (by kernel_rfl) (by kernel_rfl) (fun _ _ _ h => h) (Or.inl ⟨by rfl, by intro wx hx; go_simp⟩) (by assumption) ?_
                  try simp only [List.getElem_toArray, List.getElem_cons_succ, List.getElem_cons_zero, Act.put, List.setIfInBounds_toArray, List.set_cons_zero, List.set_cons_succ]
                  refine wpAnyH_take (i := 11) (v := .pointer (some ⟨bw, ow + q, none⟩)) rfl (by kernel_rfl) (by kernel_rfl) (by kernel_rfl) (fun _ _ _ h => h) (Or.inl ⟨by rfl, by intro wx hx; go_simp⟩) (by assumption) ?_
                  try simp only [List.getElem_toArray, List.getElem_cons_succ, List.getElem_cons_zero, Act.put, List.setIfInBounds_toArray, List.set_cons_zero, List.set_cons_succ]
                  refine wpAnyH_take (i := 12) (v := .int .i64 y) rfl (by kernel_rfl) (by kernel_rfl) (by kernel_rfl) (fun _ _ _ h => h) (Or.inl ⟨by rfl, by intro wx hx; obtain ⟨_, _, _, _, _⟩ := hx; go_simp⟩) (by assumption) ?_
                  try simp only [List.getElem_toArray, List.getElem_cons_succ, List.getElem_cons_zero, Act.put, List.setIfInBounds_toArray, List.set_cons_zero, List.set_cons_succ]
                  refine wpAnyH_take (i := 13) (v := .slice (some ⟨bw, ow, none⟩) ws.length mw) rfl (by kernel_rfl) (by kernel_rfl) (by kernel_rfl) (fun _ _ _ h => h) (Or.inl ⟨by rfl, by intro wx hx; go_simp⟩) (by assumption) ?_
                  try simp only [List.getElem_toArray, List.getElem_cons_succ, List.getElem_cons_zero, Act.put, List.setIfInBounds_toArray, List.set_cons_zero, List.set_cons_succ]
                  refine wpAnyH_take (i := 14) (v := .int .i64 p) rfl (by kernel_rfl) (by kernel_rfl) (by kernel_rfl) (fun _ _ _ h => h) (Or.inl ⟨by rfl, by intro wx hx; go_simp⟩) (by assumption) ?_
                  try simp only [List.getElem_toArray, List.getElem_cons_succ, List.getElem_cons_zero, Act.put, List.setIfInBounds_toArray, List.set_cons_zero, List.set_cons_succ]
                  refine wpAnyH_take (i := 15) (v := .pointer (some ⟨bw, ow + p, none⟩)) rfl (by kernel_rfl) (by kernel_rfl) (by kernel_rfl) (fun _ _ _ h => h) (Or.inl ⟨by rfl, by intro wx hx; go_simp⟩) (by assumption) ?_
                  try simp only [List.getElem_toArray, List.getElem_cons_succ, List.getElem_cons_zero, Act.put, List.setIfInBounds_toArray, List.set_cons_zero, List.set_cons_succ]
                  refine wpAnyH_take (i := 16) (v := .int .i64 x) rfl (by kernel_rfl) (by kernel_rfl) (by kernel_rfl) (fun _ _ _ h => h) (Or.inl ⟨by rfl, by intro wx hx; obtain ⟨_, _, _, _, _⟩ := hx; go_simp⟩) (by assumption) ?_
                  try simp only [List.getElem_toArray, List.getElem_cons_succ, List.getElem_cons_zero, Act.put, List.setIfInBounds_toArray, List.set_cons_zero, List.set_cons_succ]
                  refine wpAnyH_take (i := 17) (v := .int .i64 (y - x)) rfl (by kernel_rfl) (by kernel_rfl) (by kernel_rfl) (fun _ _ _ h => h) (Or.inl ⟨by rfl, by intro wx hx; go_simp⟩) (by assumption) ?_
                  try simp only [List.getElem_toArray, List.getElem_cons_succ, List.getElem_cons_zero, Act.put, List.setIfInBounds_toArray, List.set_cons_zero, List.set_cons_succ]
                  refine wpAnyH_take (i := 19) (v := .agg #[.slice a1 M.length c1]) rfl (by kernel_rfl) (by kernel_rfl) (by kernel_rfl) (fun _ _ _ h => h) (Or.inl ⟨by rfl, by intro wx hx; obtain ⟨_, _, _, _, _⟩ := hx; go_simp⟩) (by assumption) ?_
                  try simp only [List.getElem_toArray, List.getElem_cons_succ, List.getElem_cons_zero, Act.put, List.setIfInBounds_toArray, List.set_cons_zero, List.set_cons_succ]
                  refine wpAnyH_take (i := 20) (v := .slice (some ⟨bp, op, none⟩) P.length cP) rfl (by kernel_rfl) (by kernel_rfl) (by kernel_rfl) (fun _ _ _ h => h) (Or.inl ⟨by rfl, by intro wx hx; go_simp⟩) (by assumption) ?_
                  try simp only [List.getElem_toArray, List.getElem_cons_succ, List.getElem_cons_zero, Act.put, List.setIfInBounds_toArray, List.set_cons_zero, List.set_cons_succ]
                  refine wpAnyH_take (i := 21) (v := .int .i64 p) rfl (by kernel_rfl) (by kernel_rfl) (by kernel_rfl) (fun _ _ _ h => h) (Or.inl ⟨by rfl, by intro wx hx; go_simp⟩) (by assumption) ?_
                  try simp only [List.getElem_toArray, List.getElem_cons_succ, List.getElem_cons_zero, Act.put, List.setIfInBounds_toArray, List.set_cons_zero, List.set_cons_succ]
                  refine wpAnyH_take (i := 22) (v := .pointer (some ⟨bp, op + p, none⟩)) rfl (by kernel_rfl) (by kernel_rfl) (by kernel_rfl) (fun _ _ _ h => h) (Or.inl ⟨by rfl, by intro wx hx; go_simp⟩) (by assumption) ?_
                  try simp only [List.getElem_toArray, List.getElem_cons_succ, List.getElem_cons_zero, Act.put, List.setIfInBounds_toArray, List.set_cons_zero, List.set_cons_succ]
                  refine wpAnyH_take (i := 23) (v := .slice d1 r1.length m1) rfl (by kernel_rfl) (by kernel_rfl) (by kernel_rfl) (fun _ _ _ h => h) (Or.inl ⟨by rfl, by intro wx hx; obtain ⟨_, _, _, _, _⟩ := hx; go_simp⟩) (by assumption) ?_
                  try simp only [List.getElem_toArray, List.getElem_cons_succ, List.getElem_cons_zero, Act.put, List.setIfInBounds_toArray, List.set_cons_zero, List.set_cons_succ]
                  refine wpAnyH_take (i := 24) (v := .slice (some ⟨bp, op, none⟩) P.length cP) rfl (by kernel_rfl) (by kernel_rfl) (by kernel_rfl) (fun _ _ _ h => h) (Or.inl ⟨by rfl, by intro wx hx; go_simp⟩) (by assumption) ?_
                  try simp only [List.getElem_toArray, List.getElem_cons_succ, List.getElem_cons_zero, Act.put, List.setIfInBounds_toArray, List.set_cons_zero, List.set_cons_succ]
                  refine wpAnyH_take (i := 25) (v := .int .i64 q) rfl (by kernel_rfl) (by kernel_rfl) (by kernel_rfl) (fun _ _ _ h => h) (Or.inl ⟨by rfl, by intro wx hx; go_simp⟩) (by assumption) ?_
                  try simp only [List.getElem_toArray, List.getElem_cons_succ, List.getElem_cons_zero, Act.put, List.setIfInBounds_toArray, List.set_cons_zero, List.set_cons_succ]
                  refine wpAnyH_take (i := 26) (v := .pointer (some ⟨bp, op + q, none⟩)) rfl (by kernel_rfl) (by kernel_rfl) (by kernel_rfl) (fun _ _ _ h => h) (Or.inl ⟨by rfl, by intro wx hx; go_simp⟩) (by assumption) ?_
                  try simp only [List.getElem_toArray, List.getElem_cons_succ, List.getElem_cons_zero, Act.put, List.setIfInBounds_toArray, List.set_cons_zero, List.set_cons_succ]
                  refine wpAnyH_take (i := 27) (v := .slice d2 r2.length m2) rfl (by kernel_rfl) (by kernel_rfl) (by kernel_rfl) (fun _ _ _ h => h) (Or.inl ⟨by rfl, by intro wx hx; obtain ⟨_, _, _, _, _⟩ := hx; go_simp⟩) (by assumption) ?_
                  try simp only [List.getElem_toArray, List.getElem_cons_succ, List.getElem_cons_zero, Act.put, List.setIfInBounds_toArray, List.set_cons_zero, List.set_cons_succ]
                  refine wpAnyH_ready (rs := [18]) (by kernel_rfl) (by simp) ?_
                  refine AllReadyH.cons rfl (fun K hK => ?_) AllReadyH.nil
                  go_simp
                  go_at_call 49
                  refine (l1Most_any _ _ _).mono ?_
                  rintro e wx ⟨rfl, rfl⟩
                  go_wp2_with fail
                  refine hK.out _ _ hHeld0 (fun _ => ?_)
                  clear hK K
                  try simp only [List.getElem_toArray, List.getElem_cons_succ, List.getElem_cons_zero, Act.put, List.setIfInBounds_toArray, List.set_cons_zero, List.set_cons_succ]
                  refine wpAnyH_ready (rs := [28]) (by kernel_rfl) (by simp) ?_
                  refine AllReadyH.cons rfl (fun K hK => ?_) AllReadyH.nil
                  go_simp
                  go_at_call 60
                  refine (l6Move_any (w0 := w0) hm' hM'.out hi1 hi2 hr1.out.2 hr2.out.2 (by rw [hr1.out.1, hr2.out.1]) (by rw [hr1.out.1]; exact hk)).mono ?_
                  rintro e w6 ⟨rfl, e6⟩
                  have hS6 := hSx.out w6 (Ext.trans ed e6)
                  go_wp2_with fail
                  refine hK.out _ _ hS6 (fun _ => ?_)
                  clear hK K
                  try simp only [List.getElem_toArray, List.getElem_cons_succ, List.getElem_cons_zero, Act.put, List.setIfInBounds_toArray, List.set_cons_zero, List.set_cons_succ]
                  refine wpAnyH_take (i := 29) (v := .bool true) rfl (by kernel_rfl) (by kernel_rfl) (by kernel_rfl) (fun _ _ _ h => h) (Or.inl ⟨by rfl, by intro wx hx; go_simp⟩) (by assumption) ?_
                  try simp only [List.getElem_toArray, List.getElem_cons_succ, List.getElem_cons_zero, Act.put, List.setIfInBounds_toArray, List.set_cons_zero, List.set_cons_succ]
                  refine wpAnyH_done (by kernel_rfl) ?_ _
                  go_wp2_with fail
                  go_ret
                  exact ⟨ret_bool hr.out.symm, Ext.trans e1 (Ext.trans hy (Ext.trans ed e6))⟩
                · have hno4 := hid (hnext.out (by rw [← hr1d.out, ← hr2d.out, ← hxd.out, ← hyd.out]; omega))
                  have hgd : decide (mvC M r1 r2 < max (x - y) (y - x)) = false := decide_eq_false hg
                  replace hg := hid hg
                  refine region_held_from (w0 := wq) (S := fun u => u.cell? ⟨bw, ow + p, none⟩ = some (.int .i64 x) ∧ u.cell? ⟨bw, ow + q, none⟩ = some (.int .i64 y) ∧ u.cell? ⟨bx, 0, none⟩ = some (.slice a1 M.length c1) ∧ u.cell? ⟨bp, op + p, none⟩ = some (.slice d1 r1.length m1) ∧ u.cell? ⟨bp, op + q, none⟩ = some (.slice d2 r2.length m2)) (by kernel_rfl) hSx.out (fun wd ed hHeld0 => ?_)
                  have e0d : Ext w0 wd := Ext.trans e0q ed
                  refine wpAnyH_take (i := 0) (v := .slice (some ⟨bw, ow, none⟩) ws.length mw) rfl (by kernel_rfl) (by kernel_rfl) (by kernel_rfl) (fun _ _ _ h => h) (Or.inl ⟨by rfl, by intro wx hx; go_simp⟩) (by assumption) ?_
                  try simp only [List.getElem_toArray, List.getElem_cons_zero, Act.put, List.setIfInBounds_toArray, List.set_cons_zero, List.set_cons_succ]
                  refine wpAnyH_take (i := 1) (v := .int .i64 p) rfl (by kernel_rfl) (by kernel_rfl) (by kernel_rfl) (fun _ _ _ h => h) (Or.inl ⟨by rfl, by intro wx hx; go_simp⟩) (by assumption) ?_
                  try simp only [List.getElem_toArray, List.getElem_cons_succ, List.getElem_cons_zero, Act.put, List.setIfInBounds_toArray, List.set_cons_zero, List.set_cons_succ]
                  refine wpAnyH_take (i := 2) (v := .pointer (some ⟨bw, ow + p, none⟩)) rfl (by kernel_rfl) (by kernel_rfl) (by kernel_rfl) (fun _ _ _ h => h) (Or.inl ⟨by rfl, by intro wx hx; go_simp⟩) (by assumption) ?_
                  try simp only [List.getElem_toArray, List.getElem_cons_succ, List.getElem_cons_zero, Act.put, List.setIfInBounds_toArray, List.set_cons_zero, List.set_cons_succ]
                  refine wpAnyH_take (i := 3) (v := .int .i64 x) rfl (by kernel_rfl) (by kernel_rfl) (by kernel_rfl) (fun _ _ _ h => h) (Or.inl ⟨by rfl, by intro wx hx; obtain ⟨_, _, _, _, _⟩ := hx; go_simp⟩) (by assumption) ?_
                  try simp only [List.getElem_toArray, List.getElem_cons_succ, List.getElem_cons_zero, Act.put, List.setIfInBounds_toArray, List.set_cons_zero, List.set_cons_succ]
                  refine wpAnyH_take (i := 4) (v := .slice (some ⟨bw, ow, none⟩) ws.length mw) rfl (by kernel_rfl) (by kernel_rfl) (by kernel_rfl) (fun _ _ _ h => h) (Or.inl ⟨by rfl, by intro wx hx; go_simp⟩) (by assumption) ?_
                  try simp only [List.getElem_toArray, List.getElem_cons_succ, List.getElem_cons_zero, Act.put, List.setIfInBounds_toArray, List.set_cons_zero, List.set_cons_succ]
                  refine wpAnyH_take (i := 5) (v := .int .i64 q) rfl (by kernel_rfl) (by kernel_rfl) (by kernel_rfl) (fun _ _ _ h => h) (Or.inl ⟨by rfl, by intro wx hx; go_simp⟩) (by assumption) ?_
                  try simp only [List.getElem_toArray, List.getElem_cons_succ, List.getElem_cons_zero, Act.put, List.setIfInBounds_toArray, List.set_cons_zero, List.set_cons_succ]
                  refine wpAnyH_take (i := 6) (v := .pointer (some ⟨bw, ow + q, none⟩)) rfl (by kernel_rfl) (by kernel_rfl) (by kernel_rfl) (fun _ _ _ h => h) (Or.inl ⟨by rfl, by intro wx hx; go_simp⟩) (by assumption) ?_
                  try simp only [List.getElem_toArray, List.getElem_cons_succ, List.getElem_cons_zero, Act.put, List.setIfInBounds_toArray, List.set_cons_zero, List.set_cons_succ]
                  refine wpAnyH_take (i := 7) (v := .int .i64 y) rfl (by kernel_rfl) (by kernel_rfl) (by kernel_rfl) (fun _ _ _ h => h) (Or.inl ⟨by rfl, by intro wx hx; obtain ⟨_, _, _, _, _⟩ := hx; go_simp⟩) (by assumption) ?_
                  try simp only [List.getElem_toArray, List.getElem_cons_succ, List.getElem_cons_zero, Act.put, List.setIfInBounds_toArray, List.set_cons_zero, List.set_cons_succ]
                  refine wpAnyH_take (i := 8) (v := .int .i64 (x - y)) rfl (by kernel_rfl) (by kernel_rfl) (by kernel_rfl) (fun _ _ _ h => h) (Or.inl ⟨by rfl, by intro wx hx; go_simp⟩) (by assumption) ?_
                  try simp only [List.getElem_toArray, List.getElem_cons_succ, List.getElem_cons_zero, Act.put, List.setIfInBounds_toArray, List.set_cons_zero, List.set_cons_succ]
                  refine wpAnyH_take (i := 9) (v := .slice (some ⟨bw, ow, none⟩) ws.length mw) rfl (by kernel_rfl) (by kernel_rfl) (by kernel_rfl) (fun _ _ _ h => h) (Or.inl ⟨by rfl, by intro wx hx; go_simp⟩) (by assumption) ?_
                  try simp only [List.getElem_toArray, List.getElem_cons_succ, List.getElem_cons_zero, Act.put, List.setIfInBounds_toArray, List.set_cons_zero, List.set_cons_succ]
                  refine wpAnyH_take (i := 10) (v := .int .i64 q) rfl (by kernel_rfl) (by kernel_rfl) (by kernel_rfl) (fun _ _ _ h => h) (Or.inl ⟨by rfl, by intro wx hx; go_simp⟩) (by assumption) ?_
                  try simp only [List.getElem_toArray, List.getElem_cons_succ, List.getElem_cons_zero, Act.put, List.setIfInBounds_toArray, List.set_cons_zero, List.set_cons_succ]
                  refine wpAnyH_take (i := 11) (v := .pointer (some ⟨bw, ow + q, none⟩)) rfl (by kernel_rfl) (by kernel_rfl) (by kernel_rfl) (fun _ _ _ h => h) (Or.inl ⟨by rfl, by intro wx hx; go_simp⟩) (by assumption) ?_
                  try simp only [List.getElem_toArray, List.getElem_cons_succ, List.getElem_cons_zero, Act.put, List.setIfInBounds_toArray, List.set_cons_zero, List.set_cons_succ]
                  refine wpAnyH_take (i := 12) (v := .int .i64 y) rfl (by kernel_rfl) (by kernel_rfl) (by kernel_rfl) (fun _ _ _ h => h) (Or.inl ⟨by rfl, by intro wx hx; obtain ⟨_, _, _, _, _⟩ := hx; go_simp⟩) (by assumption) ?_
                  try simp only [List.getElem_toArray, List.getElem_cons_succ, List.getElem_cons_zero, Act.put, List.setIfInBounds_toArray, List.set_cons_zero, List.set_cons_succ]
                  refine wpAnyH_take (i := 13) (v := .slice (some ⟨bw, ow, none⟩) ws.length mw) rfl (by kernel_rfl) (by kernel_rfl) (by kernel_rfl) (fun _ _ _ h => h) (Or.inl ⟨by rfl, by intro wx hx; go_simp⟩) (by assumption) ?_
                  try simp only [List.getElem_toArray, List.getElem_cons_succ, List.getElem_cons_zero, Act.put, List.setIfInBounds_toArray, List.set_cons_zero, List.set_cons_succ]
                  refine wpAnyH_take (i := 14) (v := .int .i64 p) rfl (by kernel_rfl) (by kernel_rfl) (by kernel_rfl) (fun _ _ _ h => h) (Or.inl ⟨by rfl, by intro wx hx; go_simp⟩) (by assumption) ?_
                  try simp only [List.getElem_toArray, List.getElem_cons_succ, List.getElem_cons_zero, Act.put, List.setIfInBounds_toArray, List.set_cons_zero, List.set_cons_succ]
                  refine wpAnyH_take (i := 15) (v := .pointer (some ⟨bw, ow + p, none⟩)) rfl (by kernel_rfl) (by kernel_rfl) (by kernel_rfl) (fun _ _ _ h => h) (Or.inl ⟨by rfl, by intro wx hx; go_simp⟩) (by assumption) ?_
                  try simp only [List.getElem_toArray, List.getElem_cons_succ, List.getElem_cons_zero, Act.put, List.setIfInBounds_toArray, List.set_cons_zero, List.set_cons_succ]
                  refine wpAnyH_take (i := 16) (v := .int .i64 x) rfl (by kernel_rfl) (by kernel_rfl) (by kernel_rfl) (fun _ _ _ h => h) (Or.inl ⟨by rfl, by intro wx hx; obtain ⟨_, _, _, _, _⟩ := hx; go_simp⟩) (by assumption) ?_
                  try simp only [List.getElem_toArray, List.getElem_cons_succ, List.getElem_cons_zero, Act.put, List.setIfInBounds_toArray, List.set_cons_zero, List.set_cons_succ]
                  refine wpAnyH_take (i := 17) (v := .int .i64 (y - x)) rfl (by kernel_rfl) (by kernel_rfl) (by kernel_rfl) (fun _ _ _ h => h) (Or.inl ⟨by rfl, by intro wx hx; go_simp⟩) (by assumption) ?_
                  try simp only [List.getElem_toArray, List.getElem_cons_succ, List.getElem_cons_zero, Act.put, List.setIfInBounds_toArray, List.set_cons_zero, List.set_cons_succ]
                  refine wpAnyH_take (i := 19) (v := .agg #[.slice a1 M.length c1]) rfl (by kernel_rfl) (by kernel_rfl) (by kernel_rfl) (fun _ _ _ h => h) (Or.inl ⟨by rfl, by intro wx hx; obtain ⟨_, _, _, _, _⟩ := hx; go_simp⟩) (by assumption) ?_
                  try simp only [List.getElem_toArray, List.getElem_cons_succ, List.getElem_cons_zero, Act.put, List.setIfInBounds_toArray, List.set_cons_zero, List.set_cons_succ]
                  refine wpAnyH_take (i := 20) (v := .slice (some ⟨bp, op, none⟩) P.length cP) rfl (by kernel_rfl) (by kernel_rfl) (by kernel_rfl) (fun _ _ _ h => h) (Or.inl ⟨by rfl, by intro wx hx; go_simp⟩) (by assumption) ?_
                  try simp only [List.getElem_toArray, List.getElem_cons_succ, List.getElem_cons_zero, Act.put, List.setIfInBounds_toArray, List.set_cons_zero, List.set_cons_succ]
                  refine wpAnyH_take (i := 21) (v := .int .i64 p) rfl (by kernel_rfl) (by kernel_rfl) (by kernel_rfl) (fun _ _ _ h => h) (Or.inl ⟨by rfl, by intro wx hx; go_simp⟩) (by assumption) ?_
                  try simp only [List.getElem_toArray, List.getElem_cons_succ, List.getElem_cons_zero, Act.put, List.setIfInBounds_toArray, List.set_cons_zero, List.set_cons_succ]
                  refine wpAnyH_take (i := 22) (v := .pointer (some ⟨bp, op + p, none⟩)) rfl (by kernel_rfl) (by kernel_rfl) (by kernel_rfl) (fun _ _ _ h => h) (Or.inl ⟨by rfl, by intro wx hx; go_simp⟩) (by assumption) ?_
                  try simp only [List.getElem_toArray, List.getElem_cons_succ, List.getElem_cons_zero, Act.put, List.setIfInBounds_toArray, List.set_cons_zero, List.set_cons_succ]
                  refine wpAnyH_take (i := 23) (v := .slice d1 r1.length m1) rfl (by kernel_rfl) (by kernel_rfl) (by kernel_rfl) (fun _ _ _ h => h) (Or.inl ⟨by rfl, by intro wx hx; obtain ⟨_, _, _, _, _⟩ := hx; go_simp⟩) (by assumption) ?_
                  try simp only [List.getElem_toArray, List.getElem_cons_succ, List.getElem_cons_zero, Act.put, List.setIfInBounds_toArray, List.set_cons_zero, List.set_cons_succ]
                  refine wpAnyH_take (i := 24) (v := .slice (some ⟨bp, op, none⟩) P.length cP) rfl (by kernel_rfl) (by kernel_rfl) (by kernel_rfl) (fun _ _ _ h => h) (Or.inl ⟨by rfl, by intro wx hx; go_simp⟩) (by assumption) ?_
                  try simp only [List.getElem_toArray, List.getElem_cons_succ, List.getElem_cons_zero, Act.put, List.setIfInBounds_toArray, List.set_cons_zero, List.set_cons_succ]
                  refine wpAnyH_take (i := 25) (v := .int .i64 q) rfl (by kernel_rfl) (by kernel_rfl) (by kernel_rfl) (fun _ _ _ h => h) (Or.inl ⟨by rfl, by intro wx hx; go_simp⟩) (by assumption) ?_
                  try simp only [List.getElem_toArray, List.getElem_cons_succ, List.getElem_cons_zero, Act.put, List.setIfInBounds_toArray, List.set_cons_zero, List.set_cons_succ]
                  refine wpAnyH_take (i := 26) (v := .pointer (some ⟨bp, op + q, none⟩)) rfl (by kernel_rfl) (by kernel_rfl) (by kernel_rfl) (fun _ _ _ h => h) (Or.inl ⟨by rfl, by intro wx hx; go_simp⟩) (by assumption) ?_
                  try simp only [List.getElem_toArray, List.getElem_cons_succ, List.getElem_cons_zero, Act.put, List.setIfInBounds_toArray, List.set_cons_zero, List.set_cons_succ]
                  refine wpAnyH_take (i := 27) (v := .slice d2 r2.length m2) rfl (by kernel_rfl) (by kernel_rfl) (by kernel_rfl) (fun _ _ _ h => h) (Or.inl ⟨by rfl, by intro wx hx; obtain ⟨_, _, _, _, _⟩ := hx; go_simp⟩) (by assumption) ?_
                  try simp only [List.getElem_toArray, List.getElem_cons_succ, List.getElem_cons_zero, Act.put, List.setIfInBounds_toArray, List.set_cons_zero, List.set_cons_succ]
                  refine wpAnyH_ready (rs := [18]) (by kernel_rfl) (by simp) ?_
                  refine AllReadyH.cons rfl (fun K hK => ?_) AllReadyH.nil
                  go_simp
                  go_at_call 49
                  refine (l1Most_any _ _ _).mono ?_
                  rintro e wx ⟨rfl, rfl⟩
                  go_wp2_with fail
                  refine hK.out _ _ hHeld0 (fun _ => ?_)
                  clear hK K
                  try simp only [List.getElem_toArray, List.getElem_cons_succ, List.getElem_cons_zero, Act.put, List.setIfInBounds_toArray, List.set_cons_zero, List.set_cons_succ]
                  refine wpAnyH_ready (rs := [28]) (by kernel_rfl) (by simp) ?_
                  refine AllReadyH.cons rfl (fun K hK => ?_) AllReadyH.nil
                  go_simp
                  go_at_call 60
                  refine (l6Move_any (w0 := w0) hm' hM'.out hi1 hi2 hr1.out.2 hr2.out.2 (by rw [hr1.out.1, hr2.out.1]) (by rw [hr1.out.1]; exact hk)).mono ?_
                  rintro e w6 ⟨rfl, e6⟩
                  have hS6 := hSx.out w6 (Ext.trans ed e6)
                  go_wp2_with fail
                  refine hK.out _ _ hS6 (fun _ => ?_)
                  clear hK K
                  try simp only [List.getElem_toArray, List.getElem_cons_succ, List.getElem_cons_zero, Act.put, List.setIfInBounds_toArray, List.set_cons_zero, List.set_cons_succ]
                  refine wpAnyH_take (i := 29) (v := .bool false) rfl (by kernel_rfl) (by kernel_rfl) (by kernel_rfl) (fun _ _ _ h => h) (Or.inl ⟨by rfl, by intro wx hx; go_simp⟩) (by assumption) ?_
                  try simp only [List.getElem_toArray, List.getElem_cons_succ, List.getElem_cons_zero, Act.put, List.setIfInBounds_toArray, List.set_cons_zero, List.set_cons_succ]
                  refine wpAnyH_done (by kernel_rfl) ?_ _
                  go_wp2_with fail
                  go_roundw
                  case rel => exact ⟨q + 1, by omega, by go_num, hno4.out, Ext.trans hy (Ext.trans ed e6)⟩
                  case measure => simp [intOf]; omega
              · have hqp : q = p := by omega
                have hno3 := hid (show ∀ i, i < p + 1 → ∀ j, j < i → nth ws i - nth ws j ≤ mvC M (row P i) (row P j) ∧ nth ws j - nth ws i ≤ mvC M (row P i) (row P j) from fun i hi j hj => by
                  by_cases e : i = p
                  · subst e; exact hno2.out j (by omega)
                  · exact hno.out i (by omega) j hj)
                replace hqp := hid hqp
                go_wp2_with fail
                go_roundw
                case rel => exact ⟨p + 1, by omega, by go_num, hno3.out, hy⟩
                case measure => simp [intOf]; omega
          · have hr := hid (show workB M P ws = true by
              rw [workB, decide_eq_true hlen.out, hbl.out, lipB_of fun i hi j hj => ?_]
              · rfl
              · have hPi := hPm.out _ (row_mem (xss := P) (k := i) (by rw [← hlen.out]; exact hi))
                have hPj := hPm.out _ (row_mem (xss := P) (k := j) (by rw [← hlen.out]; exact hj))
                rcases Nat.lt_trichotomy i j with h | h | h
                · have := (hno.out j (by omega) i h).2
                  rw [mvC_symm hdst.out hPi.2 hPj.2 (by rw [hPi.1, hPj.1]) (by rw [hPi.1]; omega)] at this
                  exact this
                · rw [h]
                  have := mvC_in hdst.out hPj.2 hPj.2 rfl (by rw [hPj.1]; omega)
                  omega
                · exact (hno.out i (by omega) j h).1)
            go_wp2_with fail
            go_ret
            exact ⟨ret_bool hr.out.symm, Ext.trans e1 hx⟩
  · have hn1 : ((ws.length : Int) != (P.length : Int)) = true := by simp; omega
    have hr := hid (show workB M P ws = false by simp [workB, hlen])
    replace hlen := hid hlen
    go_enter Try.func99, Try.ntmps99
    go_wp2_with fail
    go_ret
    exact ⟨ret_bool hr.out.symm, inferInstance⟩
end Go.Proofs.Ytkibmjenjgijmaa
