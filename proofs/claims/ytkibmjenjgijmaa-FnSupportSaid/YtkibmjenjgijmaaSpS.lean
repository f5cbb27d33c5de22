/- SupportOf, the reference's. -/
import Derived.Test.YtkibmjenjgijmaaSpI
namespace Go.Proofs.Ytkibmjenjgijmaa
open Go.RowKit

theorem sup_eq {M : List (List Int)} {n k : Nat} {L : Int} {ws : List Int} (hd : Dst M n) (hk : k ≤ 3) (hg : GoodW M (confs n k 0) ws L) {i j : Nat} (hi : i < (confs n k 0).length) (hj : j < (confs n k 0).length) :
    decide (nth ws i < nth ws j + mvC M (row (confs n k 0) j) (row (confs n k 0) i)) = !decide (nth ws i = nth ws j + mvC M (row (confs n k 0) i) (row (confs n k 0) j)) := by
  obtain ⟨a1, a2, _⟩ := row_conf hi
  obtain ⟨b1, b2, _⟩ := row_conf hj
  have hsym := mvC_symm hd a2 b2 (by rw [a1, b1]) (by omega)
  have hlip := hg.1.2 i j hi hj
  rw [hsym]
  by_cases h : nth ws i < nth ws j + mvC M (row (confs n k 0) i) (row (confs n k 0) j)
  · rw [decide_eq_true h, decide_eq_false (by omega)]; rfl
  · rw [decide_eq_false h, decide_eq_true (by omega)]; rfl
set_option maxHeartbeats 3200000 in
set_option maxRecDepth 100000 in
theorem l7Support_any {v vP vw : Value} {M : List (List Int)} {ws : List Int} {k : Nat} {w0 w : World} [e0 : Ext w0 w] (hm : IsMet w0 v M) (hM : metB M = true) (hP : IsRows w0 vP (confs M.length k 0)) (hw : IsInts w0 vw ws) (hk : k ≤ 3) (hg : GoodW M (confs M.length k 0) ws 99999) :
    Calls Try.prog 44 #[v, vP, vw] w fun e w' => ∃ u, e = .returned u ∧ Own w' w.heap.size [intRowOf 3 u ((supTo M (confs M.length k 0) ws (confs M.length k 0).length).map fun q : Nat => (q : Int))] ∧ Ext w w' := by
  have hm' := hm
  obtain ⟨v1, rfl, hR⟩ := hm
  obtain ⟨a1, c1, rfl, l1⟩ := hR.form
  have hMl := met_len hM
  have hdst := dst_of_met hM
  have h216 := confs_216 (n := M.length) hMl.2 hk
  have hcp := confs_pos (n := M.length) (k := k) hMl.1
  have hlw := hid hg.1.1
  have hb1 := hid hg.2
  have hpm := hid (fun (i : Nat) (hi : i < (confs M.length k 0).length) => row_conf hi)
  have hmv := hid (confs_mv hdst hk)
  have heq := hid (fun (i j : Nat) (hi : i < (confs M.length k 0).length) (hj : j < (confs M.length k 0).length) => sup_eq hdst hk hg hi hj)
  obtain ⟨P, hPd⟩ : ∃ p, p = confs M.length k 0 := ⟨_, rfl⟩
  rw [← hPd] at h216 hcp hlw hb1 hpm hmv heq hP ⊢
  replace hPd := hid hPd
  have hM' := hid hM
  clear hM hdst hg
  obtain ⟨aP, cP, rfl, lP⟩ := hP.form
  obtain ⟨dw, mw, rfl, lw⟩ := hw.form
  obtain ⟨bP, oP, _, _, hdP, _, _, _⟩ := hP.at (w' := w) (k := 0) (by omega)
  subst hdP
  obtain ⟨bw, ow, hdw, _⟩ := hw.at (w' := w) (k := 0) (by rw [hlw.out]; omega)
  subst hdw
  have x0 : (w.alloc (.cells #[.slice a1 M.length c1] 26)).cell? ⟨w.heap.size, 0, none⟩ = some (.slice a1 M.length c1) := by go_simp
  have e1 : Ext w (w.alloc (.cells #[.slice a1 M.length c1] 26)) := inferInstance
  go_enter Try.func44, Try.ntmps44
  go_upto_region 1 with fail
  have hBx0 : w.heap.size ≤ (w.alloc (.cells #[.slice a1 M.length c1] 26)).heap.size := by simp
  generalize w.heap.size = bx at *
  generalize w.alloc (.cells #[.slice a1 M.length c1] 26) = w1 at *
  have e01 : Ext w0 w1 := Ext.trans e0 e1
  obtain ⟨B, hB⟩ : ∃ z, z = w1.heap.size := ⟨_, rfl⟩
  have hBx := hid (show bx ≤ B by rw [hB]; exact hBx0)
  clear hBx0
  have own0 : Own (w1.alloc (.cells #[] 3)) B [intRowOf 3 (.slice (some ⟨B, 0, none⟩) 0 0) ((supTo M P ws 0).map fun q : Nat => (q : Int))] := by
    rw [hB]
    exact (Own.nil w1 w1.heap.size).lit 3 1 0 #[] (Nat.le_refl _) (by unfold maxLen; omega) rfl
  have hb0 : Below B w1 (w1.alloc (.cells #[] 3)) := by rw [hB]; exact (Below.refl _ w1).alloc (Nat.le_refl _) _
  have hE := hid (show ∀ u, Below B w1 u → Ext w1 u from fun u h => ⟨by rw [← hB]; exact h⟩)
  have hBs := hid (show ∀ u, Ext w1 u → B ≤ u.heap.size from fun u e => by rw [hB]; exact e.size)
  go_upto_region 2 with fail
  rw [← hB]
  replace hB := hid hB
  generalize w1.alloc (.cells #[] 3) = wb at *
  go_wp2_with fail
  go_loopw [7, 8, 9, 10] (fun ov iv _ _ wr => ∃ (i : Nat) (dO : Option Addr) (nO mO : Nat), i ≤ P.length ∧ iv = .int .i64 i ∧ ov = .slice dO nO mO ∧ Hid (nO = ((supTo M P ws i).map fun q : Nat => (q : Int)).length) ∧ Own wr B [intRowOf 3 (.slice dO nO mO) ((supTo M P ws i).map fun q : Nat => (q : Int))] ∧ Below B w1 wr) (fun _ iv _ _ _ => P.length - (intOf iv).toNat)
  case atStart => exact ⟨0, _, _, _, by omega, rfl, rfl, hid rfl, own0, hb0⟩
  case round =>
    clear own0 hb0
    obtain ⟨i, dO, nO, mO, hi, rfl, rfl, hnO, own, hb⟩ := hrel
    obtain ⟨wo, rfl⟩ : ∃ y : World, y = wr := ⟨_, rfl⟩
    have eo : Ext w1 wo := hE.out _ hb
    have hBo := hBs.out _ eo
    have e0o : Ext w0 wo := Ext.trans e01 eo
    by_cases hlt : i < P.length
    · obtain ⟨bP', oP', d5, m5, hd5, hc5, hr5, _⟩ := hP.at (w' := wo) hlt
      cases hd5
      have hiw : i < ws.length := by rw [hlw.out]; exact hlt
      obtain ⟨bw', ow', hdw', hci⟩ := hw.at (w' := wo) hiw
      cases hdw'
      have hvi := hb1.out i hlt
      obtain ⟨pl, pp, _⟩ := hpm.out i hlt
      obtain ⟨yi, hyi⟩ : ∃ z, z = nth ws i := ⟨_, rfl⟩
      rw [← hyi] at hci hvi
      replace hyi := hid hyi
      obtain ⟨A, hA⟩ : ∃ z, z = row P i := ⟨_, rfl⟩
      rw [← hA] at hc5 hr5 pl pp
      replace hA := hid hA
      replace pl := hid pl
      go_wp2_with fail
      go_loopw [9, 10] (fun gv jv wr => ∃ j : Nat, j ≤ P.length ∧ jv = .int .i64 j ∧ gv = .bool (supAt M P ws i j) ∧ Ext wo wr) (fun _ jv _ => P.length - (intOf jv).toNat)
      case atStart => exact ⟨0, by omega, rfl, by rw [sup_zero], Ext.refl _⟩
      case round =>
        obtain ⟨j, hj, rfl, rfl, hy⟩ := hrel
        obtain ⟨wq, rfl⟩ : ∃ y : World, y = wr := ⟨_, rfl⟩
        have e0q : Ext w0 wq := Ext.trans e0o hy
        by_cases hlj : j < P.length
        · obtain ⟨bP', oP', d6, m6, hd6, hc6, hr6, _⟩ := hP.at (w' := wq) hlj
          cases hd6
          have hjw : j < ws.length := by rw [hlw.out]; exact hlj
          obtain ⟨bw', ow', hdw', hcj⟩ := hw.at (w' := wq) hjw
          cases hdw'
          have hvj := hb1.out j hlj
          obtain ⟨ql, qp, _⟩ := hpm.out j hlj
          have q2 := hmv.out i j hlt hlj
          have hst := sup_step (M := M) (P := P) (ws := ws) (i := i) (j := j)
          rw [heq.out i j hlt hlj] at hst
          have hmove := hid (fun (u : World) (e : Ext w0 u) => l6Move_any (w0 := w0) (w := u) hm' hM'.out hr5 hr6 pp qp (by rw [pl.out, ql]) (by rw [pl.out]; exact hk))
          obtain ⟨o2, ho2⟩ : ∃ z, z = supAt M P ws i (j + 1) := ⟨_, rfl⟩
          rw [← ho2] at hst
          rw [← hA.out] at q2 hst
          obtain ⟨yj, hyj⟩ : ∃ z, z = nth ws j := ⟨_, rfl⟩
          rw [← hyi.out, ← hyj] at hst
          rw [← hyj] at hcj hvj
          obtain ⟨F, hF⟩ : ∃ z, z = row P j := ⟨_, rfl⟩
          rw [← hF] at hc6 hr6 ql qp q2 hst hmove
          obtain ⟨mv1, hmv1⟩ : ∃ z, z = mvC M A F := ⟨_, rfl⟩
          rw [← hmv1] at q2 hst hmove
          replace ho2 := hid ho2
          replace hyj := hid hyj
          replace hF := hid hF
          replace hmv1 := hid hmv1
          replace hst := hid hst
          replace ql := hid ql
          have hSx := hid (show ∀ u, Ext wq u → u.cell? ⟨bx, 0, none⟩ = some (.slice a1 M.length c1) ∧ u.cell? ⟨bw, ow + i, none⟩ = some (.int .i64 yi) ∧ u.cell? ⟨bw, ow + j, none⟩ = some (.int .i64 yj) ∧ u.cell? ⟨bP, oP + i, none⟩ = some (.slice d5 A.length m5) ∧ u.cell? ⟨bP, oP + j, none⟩ = some (.slice d6 F.length m6) from fun u e => ⟨(Ext.trans (Ext.trans eo hy) e).cell x0, (Ext.trans hy e).cell hci, e.cell hcj, (Ext.trans hy e).cell hc5, e.cell hc6⟩)
          generalize hob : supAt M P ws i j = ob at *
          replace hob := hid hob
          by_cases hij : i = j
          · have hres := hid (show o2 = ob by rw [hst.out, decide_eq_true hij]; simp)
            have hne : ((i : Int) != (j : Int)) = false := by simp [hij]
            replace hij := hid hij
            clear hcj hc6
            go_upto_region 9 with fail
            refine region_held_from (w0 := wq) (S := fun u => u.cell? ⟨bx, 0, none⟩ = some (.slice a1 M.length c1) ∧ u.cell? ⟨bw, ow + i, none⟩ = some (.int .i64 yi) ∧ u.cell? ⟨bw, ow + j, none⟩ = some (.int .i64 yj) ∧ u.cell? ⟨bP, oP + i, none⟩ = some (.slice d5 A.length m5) ∧ u.cell? ⟨bP, oP + j, none⟩ = some (.slice d6 F.length m6)) (by kernel_rfl) hSx.out (fun wd ed hHeld0 => ?_)
            refine wpAnyH_take (i := 0) (v := .int .i64 i) rfl (by kernel_rfl) (by kernel_rfl) (by kernel_rfl) (fun _ _ _ h => h) (Or.inl ⟨by rfl, by intro wx hx; go_simp⟩) (by assumption) ?_
            try simp only [List.getElem_toArray, List.getElem_cons_zero, Act.put, List.setIfInBounds_toArray, List.set_cons_zero, List.set_cons_succ]
            refine wpAnyH_take (i := 1) (v := .int .i64 j) rfl (by kernel_rfl) (by kernel_rfl) (by kernel_rfl) (fun _ _ _ h => h) (Or.inl ⟨by rfl, by intro wx hx; go_simp⟩) (by assumption) ?_
            try simp only [List.getElem_toArray, List.getElem_cons_succ, List.getElem_cons_zero, Act.put, List.setIfInBounds_toArray, List.set_cons_zero, List.set_cons_succ]
            refine wpAnyH_take (i := 2) (v := .bool false) rfl (by kernel_rfl) (by kernel_rfl) (by kernel_rfl) (fun _ _ _ h => h) (Or.inl ⟨by rfl, by intro wx hx; go_simp⟩) (by assumption) ?_
            try simp only [List.getElem_toArray, List.getElem_cons_succ, List.getElem_cons_zero, Act.put, List.setIfInBounds_toArray, List.set_cons_zero, List.set_cons_succ]
            refine wpAnyH_take (i := 3) (v := .bool false) rfl (by kernel_rfl) (by kernel_rfl) (by kernel_rfl) (fun _ _ _ h => h) (Or.inl ⟨by rfl, by intro wx hx; go_simp⟩) (by assumption) ?_
            try simp only [List.getElem_toArray, List.getElem_cons_succ, List.getElem_cons_zero, Act.put, List.setIfInBounds_toArray, List.set_cons_zero, List.set_cons_succ]
            refine wpAnyH_take (i := 4) (v := undef) rfl (by kernel_rfl) (by kernel_rfl) (by kernel_rfl) (fun _ _ _ h => h) (Or.inr ⟨by kernel_rfl, rfl⟩) (by assumption) ?_
            try simp only [List.getElem_toArray, List.getElem_cons_succ, List.getElem_cons_zero, Act.put, List.setIfInBounds_toArray, List.set_cons_zero, List.set_cons_succ]
            refine wpAnyH_take (i := 5) (v := undef) rfl (by kernel_rfl) (by kernel_rfl) (by kernel_rfl) (fun _ _ _ h => h) (Or.inr ⟨by kernel_rfl, rfl⟩) (by assumption) ?_
            try simp only [List.getElem_toArray, List.getElem_cons_succ, List.getElem_cons_zero, Act.put, List.setIfInBounds_toArray, List.set_cons_zero, List.set_cons_succ]
            refine wpAnyH_take (i := 6) (v := undef) rfl (by kernel_rfl) (by kernel_rfl) (by kernel_rfl) (fun _ _ _ h => h) (Or.inr ⟨by kernel_rfl, rfl⟩) (by assumption) ?_
            try simp only [List.getElem_toArray, List.getElem_cons_succ, List.getElem_cons_zero, Act.put, List.setIfInBounds_toArray, List.set_cons_zero, List.set_cons_succ]
            refine wpAnyH_take (i := 7) (v := undef) rfl (by kernel_rfl) (by kernel_rfl) (by kernel_rfl) (fun _ _ _ h => h) (Or.inr ⟨by kernel_rfl, rfl⟩) (by assumption) ?_
            try simp only [List.getElem_toArray, List.getElem_cons_succ, List.getElem_cons_zero, Act.put, List.setIfInBounds_toArray, List.set_cons_zero, List.set_cons_succ]
            refine wpAnyH_take (i := 8) (v := undef) rfl (by kernel_rfl) (by kernel_rfl) (by kernel_rfl) (fun _ _ _ h => h) (Or.inr ⟨by kernel_rfl, rfl⟩) (by assumption) ?_
            try simp only [List.getElem_toArray, List.getElem_cons_succ, List.getElem_cons_zero, Act.put, List.setIfInBounds_toArray, List.set_cons_zero, List.set_cons_succ]
            refine wpAnyH_take (i := 9) (v := undef) rfl (by kernel_rfl) (by kernel_rfl) (by kernel_rfl) (fun _ _ _ h => h) (Or.inr ⟨by kernel_rfl, rfl⟩) (by assumption) ?_
            try simp only [List.getElem_toArray, List.getElem_cons_succ, List.getElem_cons_zero, Act.put, List.setIfInBounds_toArray, List.set_cons_zero, List.set_cons_succ]
            refine wpAnyH_take (i := 10) (v := undef) rfl (by kernel_rfl) (by kernel_rfl) (by kernel_rfl) (fun _ _ _ h => h) (Or.inr ⟨by kernel_rfl, rfl⟩) (by assumption) ?_
            try simp only [List.getElem_toArray, List.getElem_cons_succ, List.getElem_cons_zero, Act.put, List.setIfInBounds_toArray, List.set_cons_zero, List.set_cons_succ]
            refine wpAnyH_take (i := 11) (v := undef) rfl (by kernel_rfl) (by kernel_rfl) (by kernel_rfl) (fun _ _ _ h => h) (Or.inr ⟨by kernel_rfl, rfl⟩) (by assumption) ?_
            try simp only [List.getElem_toArray, List.getElem_cons_succ, List.getElem_cons_zero, Act.put, List.setIfInBounds_toArray, List.set_cons_zero, List.set_cons_succ]
            refine wpAnyH_take (i := 12) (v := undef) rfl (by kernel_rfl) (by kernel_rfl) (by kernel_rfl) (fun _ _ _ h => h) (Or.inr ⟨by kernel_rfl, rfl⟩) (by assumption) ?_
            try simp only [List.getElem_toArray, List.getElem_cons_succ, List.getElem_cons_zero, Act.put, List.setIfInBounds_toArray, List.set_cons_zero, List.set_cons_succ]
            refine wpAnyH_take (i := 13) (v := undef) rfl (by kernel_rfl) (by kernel_rfl) (by kernel_rfl) (fun _ _ _ h => h) (Or.inr ⟨by kernel_rfl, rfl⟩) (by assumption) ?_
            try simp only [List.getElem_toArray, List.getElem_cons_succ, List.getElem_cons_zero, Act.put, List.setIfInBounds_toArray, List.set_cons_zero, List.set_cons_succ]
            refine wpAnyH_take (i := 14) (v := undef) rfl (by kernel_rfl) (by kernel_rfl) (by kernel_rfl) (fun _ _ _ h => h) (Or.inr ⟨by kernel_rfl, rfl⟩) (by assumption) ?_
            try simp only [List.getElem_toArray, List.getElem_cons_succ, List.getElem_cons_zero, Act.put, List.setIfInBounds_toArray, List.set_cons_zero, List.set_cons_succ]
            refine wpAnyH_take (i := 15) (v := undef) rfl (by kernel_rfl) (by kernel_rfl) (by kernel_rfl) (fun _ _ _ h => h) (Or.inr ⟨by kernel_rfl, rfl⟩) (by assumption) ?_
            try simp only [List.getElem_toArray, List.getElem_cons_succ, List.getElem_cons_zero, Act.put, List.setIfInBounds_toArray, List.set_cons_zero, List.set_cons_succ]
            refine wpAnyH_take (i := 16) (v := undef) rfl (by kernel_rfl) (by kernel_rfl) (by kernel_rfl) (fun _ _ _ h => h) (Or.inr ⟨by kernel_rfl, rfl⟩) (by assumption) ?_
            try simp only [List.getElem_toArray, List.getElem_cons_succ, List.getElem_cons_zero, Act.put, List.setIfInBounds_toArray, List.set_cons_zero, List.set_cons_succ]
            refine wpAnyH_take (i := 17) (v := undef) rfl (by kernel_rfl) (by kernel_rfl) (by kernel_rfl) (fun _ _ _ h => h) (Or.inr ⟨by kernel_rfl, rfl⟩) (by assumption) ?_
            try simp only [List.getElem_toArray, List.getElem_cons_succ, List.getElem_cons_zero, Act.put, List.setIfInBounds_toArray, List.set_cons_zero, List.set_cons_succ]
            refine wpAnyH_take (i := 18) (v := undef) rfl (by kernel_rfl) (by kernel_rfl) (by kernel_rfl) (fun _ _ _ h => h) (Or.inr ⟨by kernel_rfl, rfl⟩) (by assumption) ?_
            try simp only [List.getElem_toArray, List.getElem_cons_succ, List.getElem_cons_zero, Act.put, List.setIfInBounds_toArray, List.set_cons_zero, List.set_cons_succ]
            refine wpAnyH_take (i := 19) (v := undef) rfl (by kernel_rfl) (by kernel_rfl) (by kernel_rfl) (fun _ _ _ h => h) (Or.inr ⟨by kernel_rfl, rfl⟩) (by assumption) ?_
            try simp only [List.getElem_toArray, List.getElem_cons_succ, List.getElem_cons_zero, Act.put, List.setIfInBounds_toArray, List.set_cons_zero, List.set_cons_succ]
            refine wpAnyH_take (i := 20) (v := undef) rfl (by kernel_rfl) (by kernel_rfl) (by kernel_rfl) (fun _ _ _ h => h) (Or.inr ⟨by kernel_rfl, rfl⟩) (by assumption) ?_
            try simp only [List.getElem_toArray, List.getElem_cons_succ, List.getElem_cons_zero, Act.put, List.setIfInBounds_toArray, List.set_cons_zero, List.set_cons_succ]
            refine wpAnyH_take (i := 21) (v := undef) rfl (by kernel_rfl) (by kernel_rfl) (by kernel_rfl) (fun _ _ _ h => h) (Or.inr ⟨by kernel_rfl, rfl⟩) (by assumption) ?_
            try simp only [List.getElem_toArray, List.getElem_cons_succ, List.getElem_cons_zero, Act.put, List.setIfInBounds_toArray, List.set_cons_zero, List.set_cons_succ]
            refine wpAnyH_take (i := 22) (v := undef) rfl (by kernel_rfl) (by kernel_rfl) (by kernel_rfl) (fun _ _ _ h => h) (Or.inr ⟨by kernel_rfl, rfl⟩) (by assumption) ?_
            try simp only [List.getElem_toArray, List.getElem_cons_succ, List.getElem_cons_zero, Act.put, List.setIfInBounds_toArray, List.set_cons_zero, List.set_cons_succ]
            refine wpAnyH_take (i := 23) (v := undef) rfl (by kernel_rfl) (by kernel_rfl) (by kernel_rfl) (fun _ _ _ h => h) (Or.inr ⟨by kernel_rfl, rfl⟩) (by assumption) ?_
            try simp only [List.getElem_toArray, List.getElem_cons_succ, List.getElem_cons_zero, Act.put, List.setIfInBounds_toArray, List.set_cons_zero, List.set_cons_succ]
            refine wpAnyH_take (i := 24) (v := .bool false) rfl (by kernel_rfl) (by kernel_rfl) (by kernel_rfl) (fun _ _ _ h => h) (Or.inl ⟨by rfl, by intro wx hx; go_simp⟩) (by assumption) ?_
            try simp only [List.getElem_toArray, List.getElem_cons_succ, List.getElem_cons_zero, Act.put, List.setIfInBounds_toArray, List.set_cons_zero, List.set_cons_succ]
            refine wpAnyH_done (by kernel_rfl) ?_ _
            have hyz : Ext wo wd := Ext.trans hy ed
            clear hSx hHeld0
            go_wp2_with fail
            go_roundw
            case rel => exact ⟨j + 1, by omega, by go_num, by rw [← ho2.out, hres.out], hyz⟩
            case measure => simp [intOf]; omega
          · have hne : ((i : Int) != (j : Int)) = true := by simp; omega
            have hst2 := hid (show o2 = (ob && !decide (yi = yj + mv1)) by rw [hst.out, decide_eq_false hij, Bool.false_or])
            replace hij := hid hij
            clear hcj hc6
            by_cases hhit : yi = yj + mv1
            · have hres := hid (show o2 = false by rw [hst2.out, decide_eq_true hhit]; simp)
              have hee : (yi == yj + mv1) = true := by simp [hhit]
              replace hhit := hid hhit
              go_upto_region 9 with fail
              refine region_held_from (w0 := wq) (S := fun u => u.cell? ⟨bx, 0, none⟩ = some (.slice a1 M.length c1) ∧ u.cell? ⟨bw, ow + i, none⟩ = some (.int .i64 yi) ∧ u.cell? ⟨bw, ow + j, none⟩ = some (.int .i64 yj) ∧ u.cell? ⟨bP, oP + i, none⟩ = some (.slice d5 A.length m5) ∧ u.cell? ⟨bP, oP + j, none⟩ = some (.slice d6 F.length m6)) (by kernel_rfl) hSx.out (fun wd ed hHeld0 => ?_)
              refine wpAnyH_take (i := 0) (v := .int .i64 i) rfl (by kernel_rfl) (by kernel_rfl) (by kernel_rfl) (fun _ _ _ h => h) (Or.inl ⟨by rfl, by intro wx hx; go_simp⟩) (by assumption) ?_
              try simp only [List.getElem_toArray, List.getElem_cons_zero, Act.put, List.setIfInBounds_toArray, List.set_cons_zero, List.set_cons_succ]
              refine wpAnyH_take (i := 1) (v := .int .i64 j) rfl (by kernel_rfl) (by kernel_rfl) (by kernel_rfl) (fun _ _ _ h => h) (Or.inl ⟨by rfl, by intro wx hx; go_simp⟩) (by assumption) ?_
              try simp only [List.getElem_toArray, List.getElem_cons_succ, List.getElem_cons_zero, Act.put, List.setIfInBounds_toArray, List.set_cons_zero, List.set_cons_succ]
              refine wpAnyH_take (i := 2) (v := .bool true) rfl (by kernel_rfl) (by kernel_rfl) (by kernel_rfl) (fun _ _ _ h => h) (Or.inl ⟨by rfl, by intro wx hx; go_simp⟩) (by assumption) ?_
              try simp only [List.getElem_toArray, List.getElem_cons_succ, List.getElem_cons_zero, Act.put, List.setIfInBounds_toArray, List.set_cons_zero, List.set_cons_succ]
              refine wpAnyH_take (i := 3) (v := .bool true) rfl (by kernel_rfl) (by kernel_rfl) (by kernel_rfl) (fun _ _ _ h => h) (Or.inl ⟨by rfl, by intro wx hx; go_simp⟩) (by assumption) ?_
              try simp only [List.getElem_toArray, List.getElem_cons_succ, List.getElem_cons_zero, Act.put, List.setIfInBounds_toArray, List.set_cons_zero, List.set_cons_succ]
              refine wpAnyH_take (i := 4) (v := .slice (some ⟨bw, ow, none⟩) ws.length mw) rfl (by kernel_rfl) (by kernel_rfl) (by kernel_rfl) (fun _ _ _ h => h) (Or.inl ⟨by rfl, by intro wx hx; go_simp⟩) (by assumption) ?_
              try simp only [List.getElem_toArray, List.getElem_cons_succ, List.getElem_cons_zero, Act.put, List.setIfInBounds_toArray, List.set_cons_zero, List.set_cons_succ]
              refine wpAnyH_take (i := 5) (v := .int .i64 i) rfl (by kernel_rfl) (by kernel_rfl) (by kernel_rfl) (fun _ _ _ h => h) (Or.inl ⟨by rfl, by intro wx hx; go_simp⟩) (by assumption) ?_
              try simp only [List.getElem_toArray, List.getElem_cons_succ, List.getElem_cons_zero, Act.put, List.setIfInBounds_toArray, List.set_cons_zero, List.set_cons_succ]
              refine wpAnyH_take (i := 6) (v := .pointer (some ⟨bw, ow + i, none⟩)) rfl (by kernel_rfl) (by kernel_rfl) (by kernel_rfl) (fun _ _ _ h => h) (Or.inl ⟨by rfl, by intro wx hx; go_simp⟩) (by assumption) ?_
              try simp only [List.getElem_toArray, List.getElem_cons_succ, List.getElem_cons_zero, Act.put, List.setIfInBounds_toArray, List.set_cons_zero, List.set_cons_succ]
              refine wpAnyH_take (i := 7) (v := .int .i64 yi) rfl (by kernel_rfl) (by kernel_rfl) (by kernel_rfl) (fun _ _ _ h => h) (Or.inl ⟨by rfl, by intro wx hx; obtain ⟨_, _, _, _, _⟩ := hx; go_simp⟩) (by assumption) ?_
              try simp only [List.getElem_toArray, List.getElem_cons_succ, List.getElem_cons_zero, Act.put, List.setIfInBounds_toArray, List.set_cons_zero, List.set_cons_succ]
              refine wpAnyH_take (i := 8) (v := .slice (some ⟨bw, ow, none⟩) ws.length mw) rfl (by kernel_rfl) (by kernel_rfl) (by kernel_rfl) (fun _ _ _ h => h) (Or.inl ⟨by rfl, by intro wx hx; go_simp⟩) (by assumption) ?_
              try simp only [List.getElem_toArray, List.getElem_cons_succ, List.getElem_cons_zero, Act.put, List.setIfInBounds_toArray, List.set_cons_zero, List.set_cons_succ]
              refine wpAnyH_take (i := 9) (v := .int .i64 j) rfl (by kernel_rfl) (by kernel_rfl) (by kernel_rfl) (fun _ _ _ h => h) (Or.inl ⟨by rfl, by intro wx hx; go_simp⟩) (by assumption) ?_
              try simp only [List.getElem_toArray, List.getElem_cons_succ, List.getElem_cons_zero, Act.put, List.setIfInBounds_toArray, List.set_cons_zero, List.set_cons_succ]
              refine wpAnyH_take (i := 10) (v := .pointer (some ⟨bw, ow + j, none⟩)) rfl (by kernel_rfl) (by kernel_rfl) (by kernel_rfl) (fun _ _ _ h => h) (Or.inl ⟨by rfl, by intro wx hx; go_simp⟩) (by assumption) ?_
              try simp only [List.getElem_toArray, List.getElem_cons_succ, List.getElem_cons_zero, Act.put, List.setIfInBounds_toArray, List.set_cons_zero, List.set_cons_succ]
              refine wpAnyH_take (i := 11) (v := .int .i64 yj) rfl (by kernel_rfl) (by kernel_rfl) (by kernel_rfl) (fun _ _ _ h => h) (Or.inl ⟨by rfl, by intro wx hx; obtain ⟨_, _, _, _, _⟩ := hx; go_simp⟩) (by assumption) ?_
              try simp only [List.getElem_toArray, List.getElem_cons_succ, List.getElem_cons_zero, Act.put, List.setIfInBounds_toArray, List.set_cons_zero, List.set_cons_succ]
              refine wpAnyH_take (i := 12) (v := .agg #[.slice a1 M.length c1]) rfl (by kernel_rfl) (by kernel_rfl) (by kernel_rfl) (fun _ _ _ h => h) (Or.inl ⟨by rfl, by intro wx hx; obtain ⟨_, _, _, _, _⟩ := hx; go_simp⟩) (by assumption) ?_
              try simp only [List.getElem_toArray, List.getElem_cons_succ, List.getElem_cons_zero, Act.put, List.setIfInBounds_toArray, List.set_cons_zero, List.set_cons_succ]
              refine wpAnyH_take (i := 13) (v := .slice (some ⟨bP, oP, none⟩) P.length cP) rfl (by kernel_rfl) (by kernel_rfl) (by kernel_rfl) (fun _ _ _ h => h) (Or.inl ⟨by rfl, by intro wx hx; go_simp⟩) (by assumption) ?_
              try simp only [List.getElem_toArray, List.getElem_cons_succ, List.getElem_cons_zero, Act.put, List.setIfInBounds_toArray, List.set_cons_zero, List.set_cons_succ]
              refine wpAnyH_take (i := 14) (v := .int .i64 i) rfl (by kernel_rfl) (by kernel_rfl) (by kernel_rfl) (fun _ _ _ h => h) (Or.inl ⟨by rfl, by intro wx hx; go_simp⟩) (by assumption) ?_
              try simp only [List.getElem_toArray, List.getElem_cons_succ, List.getElem_cons_zero, Act.put, List.setIfInBounds_toArray, List.set_cons_zero, List.set_cons_succ]
              refine wpAnyH_take (i := 15) (v := .pointer (some ⟨bP, oP + i, none⟩)) rfl (by kernel_rfl) (by kernel_rfl) (by kernel_rfl) (fun _ _ _ h => h) (Or.inl ⟨by rfl, by intro wx hx; go_simp⟩) (by assumption) ?_
              try simp only [List.getElem_toArray, List.getElem_cons_succ, List.getElem_cons_zero, Act.put, List.setIfInBounds_toArray, List.set_cons_zero, List.set_cons_succ]
              refine wpAnyH_take (i := 16) (v := .slice d5 A.length m5) rfl (by kernel_rfl) (by kernel_rfl) (by kernel_rfl) (fun _ _ _ h => h) (Or.inl ⟨by rfl, by intro wx hx; obtain ⟨_, _, _, _, _⟩ := hx; go_simp⟩) (by assumption) ?_
              try simp only [List.getElem_toArray, List.getElem_cons_succ, List.getElem_cons_zero, Act.put, List.setIfInBounds_toArray, List.set_cons_zero, List.set_cons_succ]
              refine wpAnyH_take (i := 17) (v := .slice (some ⟨bP, oP, none⟩) P.length cP) rfl (by kernel_rfl) (by kernel_rfl) (by kernel_rfl) (fun _ _ _ h => h) (Or.inl ⟨by rfl, by intro wx hx; go_simp⟩) (by assumption) ?_
              try simp only [List.getElem_toArray, List.getElem_cons_succ, List.getElem_cons_zero, Act.put, List.setIfInBounds_toArray, List.set_cons_zero, List.set_cons_succ]
              refine wpAnyH_take (i := 18) (v := .int .i64 j) rfl (by kernel_rfl) (by kernel_rfl) (by kernel_rfl) (fun _ _ _ h => h) (Or.inl ⟨by rfl, by intro wx hx; go_simp⟩) (by assumption) ?_
              try simp only [List.getElem_toArray, List.getElem_cons_succ, List.getElem_cons_zero, Act.put, List.setIfInBounds_toArray, List.set_cons_zero, List.set_cons_succ]
              refine wpAnyH_take (i := 19) (v := .pointer (some ⟨bP, oP + j, none⟩)) rfl (by kernel_rfl) (by kernel_rfl) (by kernel_rfl) (fun _ _ _ h => h) (Or.inl ⟨by rfl, by intro wx hx; go_simp⟩) (by assumption) ?_
              try simp only [List.getElem_toArray, List.getElem_cons_succ, List.getElem_cons_zero, Act.put, List.setIfInBounds_toArray, List.set_cons_zero, List.set_cons_succ]
              refine wpAnyH_take (i := 20) (v := .slice d6 F.length m6) rfl (by kernel_rfl) (by kernel_rfl) (by kernel_rfl) (fun _ _ _ h => h) (Or.inl ⟨by rfl, by intro wx hx; obtain ⟨_, _, _, _, _⟩ := hx; go_simp⟩) (by assumption) ?_
              try simp only [List.getElem_toArray, List.getElem_cons_succ, List.getElem_cons_zero, Act.put, List.setIfInBounds_toArray, List.set_cons_zero, List.set_cons_succ]
              refine wpAnyH_ready (rs := [21]) (by kernel_rfl) (by simp) ?_
              refine AllReadyH.cons rfl (fun K hK => ?_) AllReadyH.nil
              go_simp
              have e0d : Ext w0 wd := Ext.trans e0q ed
              go_at_call 60
              with_reducible refine (hmove.out wd e0d).mono ?_
              rintro e w5 ⟨rfl, e5⟩
              have hS5 := hid (hSx.out w5 (Ext.trans ed e5))
              have hyz : Ext wo w5 := Ext.trans hy (Ext.trans ed e5)
              go_wp2_with fail
              refine hK.out _ _ hS5.out (fun _ => ?_)
              clear hK K
              try simp only [List.getElem_toArray, List.getElem_cons_succ, List.getElem_cons_zero, Act.put, List.setIfInBounds_toArray, List.set_cons_zero, List.set_cons_succ]
              refine wpAnyH_take (i := 22) (v := .int .i64 (yj + mv1)) rfl (by kernel_rfl) (by kernel_rfl) (by kernel_rfl) (fun _ _ _ h => h) (Or.inl ⟨by rfl, by intro wx hx; (go_simp; exact IntWalk.i64_in _ (by omega))⟩) (by assumption) ?_
              try simp only [List.getElem_toArray, List.getElem_cons_succ, List.getElem_cons_zero, Act.put, List.setIfInBounds_toArray, List.set_cons_zero, List.set_cons_succ]
              refine wpAnyH_take (i := 23) (v := .bool true) rfl (by kernel_rfl) (by kernel_rfl) (by kernel_rfl) (fun _ _ _ h => h) (Or.inl ⟨by rfl, by intro wx hx; go_simp⟩) (by assumption) ?_
              try simp only [List.getElem_toArray, List.getElem_cons_succ, List.getElem_cons_zero, Act.put, List.setIfInBounds_toArray, List.set_cons_zero, List.set_cons_succ]
              refine wpAnyH_take (i := 24) (v := .bool true) rfl (by kernel_rfl) (by kernel_rfl) (by kernel_rfl) (fun _ _ _ h => h) (Or.inl ⟨by rfl, by intro wx hx; go_simp⟩) (by assumption) ?_
              try simp only [List.getElem_toArray, List.getElem_cons_succ, List.getElem_cons_zero, Act.put, List.setIfInBounds_toArray, List.set_cons_zero, List.set_cons_succ]
              refine wpAnyH_done (by kernel_rfl) ?_ _
              clear hSx hHeld0 hS5
              go_wp2_with fail
              go_roundw
              case rel => exact ⟨j + 1, by omega, by go_num, by rw [← ho2.out, hres.out], hyz⟩
              case measure => simp [intOf]; omega
            · have hres := hid (show o2 = ob by rw [hst2.out, decide_eq_false hhit]; simp)
              have hee : (yi == yj + mv1) = false := by simp [hhit]
              replace hhit := hid hhit
              go_upto_region 9 with fail
              refine region_held_from (w0 := wq) (S := fun u => u.cell? ⟨bx, 0, none⟩ = some (.slice a1 M.length c1) ∧ u.cell? ⟨bw, ow + i, none⟩ = some (.int .i64 yi) ∧ u.cell? ⟨bw, ow + j, none⟩ = some (.int .i64 yj) ∧ u.cell? ⟨bP, oP + i, none⟩ = some (.slice d5 A.length m5) ∧ u.cell? ⟨bP, oP + j, none⟩ = some (.slice d6 F.length m6)) (by kernel_rfl) hSx.out (fun wd ed hHeld0 => ?_)
              refine wpAnyH_take (i := 0) (v := .int .i64 i) rfl (by kernel_rfl) (by kernel_rfl) (by kernel_rfl) (fun _ _ _ h => h) (Or.inl ⟨by rfl, by intro wx hx; go_simp⟩) (by assumption) ?_
              try simp only [List.getElem_toArray, List.getElem_cons_zero, Act.put, List.setIfInBounds_toArray, List.set_cons_zero, List.set_cons_succ]
              refine wpAnyH_take (i := 1) (v := .int .i64 j) rfl (by kernel_rfl) (by kernel_rfl) (by kernel_rfl) (fun _ _ _ h => h) (Or.inl ⟨by rfl, by intro wx hx; go_simp⟩) (by assumption) ?_
              try simp only [List.getElem_toArray, List.getElem_cons_succ, List.getElem_cons_zero, Act.put, List.setIfInBounds_toArray, List.set_cons_zero, List.set_cons_succ]
              refine wpAnyH_take (i := 2) (v := .bool true) rfl (by kernel_rfl) (by kernel_rfl) (by kernel_rfl) (fun _ _ _ h => h) (Or.inl ⟨by rfl, by intro wx hx; go_simp⟩) (by assumption) ?_
              try simp only [List.getElem_toArray, List.getElem_cons_succ, List.getElem_cons_zero, Act.put, List.setIfInBounds_toArray, List.set_cons_zero, List.set_cons_succ]
              refine wpAnyH_take (i := 3) (v := .bool true) rfl (by kernel_rfl) (by kernel_rfl) (by kernel_rfl) (fun _ _ _ h => h) (Or.inl ⟨by rfl, by intro wx hx; go_simp⟩) (by assumption) ?_
              try simp only [List.getElem_toArray, List.getElem_cons_succ, List.getElem_cons_zero, Act.put, List.setIfInBounds_toArray, List.set_cons_zero, List.set_cons_succ]
              refine wpAnyH_take (i := 4) (v := .slice (some ⟨bw, ow, none⟩) ws.length mw) rfl (by kernel_rfl) (by kernel_rfl) (by kernel_rfl) (fun _ _ _ h => h) (Or.inl ⟨by rfl, by intro wx hx; go_simp⟩) (by assumption) ?_
              try simp only [List.getElem_toArray, List.getElem_cons_succ, List.getElem_cons_zero, Act.put, List.setIfInBounds_toArray, List.set_cons_zero, List.set_cons_succ]
              refine wpAnyH_take (i := 5) (v := .int .i64 i) rfl (by kernel_rfl) (by kernel_rfl) (by kernel_rfl) (fun _ _ _ h => h) (Or.inl ⟨by rfl, by intro wx hx; go_simp⟩) (by assumption) ?_
              try simp only [List.getElem_toArray, List.getElem_cons_succ, List.getElem_cons_zero, Act.put, List.setIfInBounds_toArray, List.set_cons_zero, List.set_cons_succ]
              refine wpAnyH_take (i := 6) (v := .pointer (some ⟨bw, ow + i, none⟩)) rfl (by kernel_rfl) (by kernel_rfl) (by kernel_rfl) (fun _ _ _ h => h) (Or.inl ⟨by rfl, by intro wx hx; go_simp⟩) (by assumption) ?_
              try simp only [List.getElem_toArray, List.getElem_cons_succ, List.getElem_cons_zero, Act.put, List.setIfInBounds_toArray, List.set_cons_zero, List.set_cons_succ]
              refine wpAnyH_take (i := 7) (v := .int .i64 yi) rfl (by kernel_rfl) (by kernel_rfl) (by kernel_rfl) (fun _ _ _ h => h) (Or.inl ⟨by rfl, by intro wx hx; obtain ⟨_, _, _, _, _⟩ := hx; go_simp⟩) (by assumption) ?_
              try simp only [List.getElem_toArray, List.getElem_cons_succ, List.getElem_cons_zero, Act.put, List.setIfInBounds_toArray, List.set_cons_zero, List.set_cons_succ]
              refine wpAnyH_take (i := 8) (v := .slice (some ⟨bw, ow, none⟩) ws.length mw) rfl (by kernel_rfl) (by kernel_rfl) (by kernel_rfl) (fun _ _ _ h => h) (Or.inl ⟨by rfl, by intro wx hx; go_simp⟩) (by assumption) ?_
              try simp only [List.getElem_toArray, List.getElem_cons_succ, List.getElem_cons_zero, Act.put, List.setIfInBounds_toArray, List.set_cons_zero, List.set_cons_succ]
              refine wpAnyH_take (i := 9) (v := .int .i64 j) rfl (by kernel_rfl) (by kernel_rfl) (by kernel_rfl) (fun _ _ _ h => h) (Or.inl ⟨by rfl, by intro wx hx; go_simp⟩) (by assumption) ?_
              try simp only [List.getElem_toArray, List.getElem_cons_succ, List.getElem_cons_zero, Act.put, List.setIfInBounds_toArray, List.set_cons_zero, List.set_cons_succ]
              refine wpAnyH_take (i := 10) (v := .pointer (some ⟨bw, ow + j, none⟩)) rfl (by kernel_rfl) (by kernel_rfl) (by kernel_rfl) (fun _ _ _ h => h) (Or.inl ⟨by rfl, by intro wx hx; go_simp⟩) (by assumption) ?_
              try simp only [List.getElem_toArray, List.getElem_cons_succ, List.getElem_cons_zero, Act.put, List.setIfInBounds_toArray, List.set_cons_zero, List.set_cons_succ]
              refine wpAnyH_take (i := 11) (v := .int .i64 yj) rfl (by kernel_rfl) (by kernel_rfl) (by kernel_rfl) (fun _ _ _ h => h) (Or.inl ⟨by rfl, by intro wx hx; obtain ⟨_, _, _, _, _⟩ := hx; go_simp⟩) (by assumption) ?_
              try simp only [List.getElem_toArray, List.getElem_cons_succ, List.getElem_cons_zero, Act.put, List.setIfInBounds_toArray, List.set_cons_zero, List.set_cons_succ]
              refine wpAnyH_take (i := 12) (v := .agg #[.slice a1 M.length c1]) rfl (by kernel_rfl) (by kernel_rfl) (by kernel_rfl) (fun _ _ _ h => h) (Or.inl ⟨by rfl, by intro wx hx; obtain ⟨_, _, _, _, _⟩ := hx; go_simp⟩) (by assumption) ?_
              try simp only [List.getElem_toArray, List.getElem_cons_succ, List.getElem_cons_zero, Act.put, List.setIfInBounds_toArray, List.set_cons_zero, List.set_cons_succ]
              refine wpAnyH_take (i := 13) (v := .slice (some ⟨bP, oP, none⟩) P.length cP) rfl (by kernel_rfl) (by kernel_rfl) (by kernel_rfl) (fun _ _ _ h => h) (Or.inl ⟨by rfl, by intro wx hx; go_simp⟩) (by assumption) ?_
              try simp only [List.getElem_toArray, List.getElem_cons_succ, List.getElem_cons_zero, Act.put, List.setIfInBounds_toArray, List.set_cons_zero, List.set_cons_succ]
              refine wpAnyH_take (i := 14) (v := .int .i64 i) rfl (by kernel_rfl) (by kernel_rfl) (by kernel_rfl) (fun _ _ _ h => h) (Or.inl ⟨by rfl, by intro wx hx; go_simp⟩) (by assumption) ?_
              try simp only [List.getElem_toArray, List.getElem_cons_succ, List.getElem_cons_zero, Act.put, List.setIfInBounds_toArray, List.set_cons_zero, List.set_cons_succ]
              refine wpAnyH_take (i := 15) (v := .pointer (some ⟨bP, oP + i, none⟩)) rfl (by kernel_rfl) (by kernel_rfl) (by kernel_rfl) (fun _ _ _ h => h) (Or.inl ⟨by rfl, by intro wx hx; go_simp⟩) (by assumption) ?_
              try simp only [List.getElem_toArray, List.getElem_cons_succ, List.getElem_cons_zero, Act.put, List.setIfInBounds_toArray, List.set_cons_zero, List.set_cons_succ]
              refine wpAnyH_take (i := 16) (v := .slice d5 A.length m5) rfl (by kernel_rfl) (by kernel_rfl) (by kernel_rfl) (fun _ _ _ h => h) (Or.inl ⟨by rfl, by intro wx hx; obtain ⟨_, _, _, _, _⟩ := hx; go_simp⟩) (by assumption) ?_
              try simp only [List.getElem_toArray, List.getElem_cons_succ, List.getElem_cons_zero, Act.put, List.setIfInBounds_toArray, List.set_cons_zero, List.set_cons_succ]
              refine wpAnyH_take (i := 17) (v := .slice (some ⟨bP, oP, none⟩) P.length cP) rfl (by kernel_rfl) (by kernel_rfl) (by kernel_rfl) (fun _ _ _ h => h) (Or.inl ⟨by rfl, by intro wx hx; go_simp⟩) (by assumption) ?_
              try simp only [List.getElem_toArray, List.getElem_cons_succ, List.getElem_cons_zero, Act.put, List.setIfInBounds_toArray, List.set_cons_zero, List.set_cons_succ]
              refine wpAnyH_take (i := 18) (v := .int .i64 j) rfl (by kernel_rfl) (by kernel_rfl) (by kernel_rfl) (fun _ _ _ h => h) (Or.inl ⟨by rfl, by intro wx hx; go_simp⟩) (by assumption) ?_
              try simp only [List.getElem_toArray, List.getElem_cons_succ, List.getElem_cons_zero, Act.put, List.setIfInBounds_toArray, List.set_cons_zero, List.set_cons_succ]
              refine wpAnyH_take (i := 19) (v := .pointer (some ⟨bP, oP + j, none⟩)) rfl (by kernel_rfl) (by kernel_rfl) (by kernel_rfl) (fun _ _ _ h => h) (Or.inl ⟨by rfl, by intro wx hx; go_simp⟩) (by assumption) ?_
              try simp only [List.getElem_toArray, List.getElem_cons_succ, List.getElem_cons_zero, Act.put, List.setIfInBounds_toArray, List.set_cons_zero, List.set_cons_succ]
              refine wpAnyH_take (i := 20) (v := .slice d6 F.length m6) rfl (by kernel_rfl) (by kernel_rfl) (by kernel_rfl) (fun _ _ _ h => h) (Or.inl ⟨by rfl, by intro wx hx; obtain ⟨_, _, _, _, _⟩ := hx; go_simp⟩) (by assumption) ?_
              try simp only [List.getElem_toArray, List.getElem_cons_succ, List.getElem_cons_zero, Act.put, List.setIfInBounds_toArray, List.set_cons_zero, List.set_cons_succ]
              refine wpAnyH_ready (rs := [21]) (by kernel_rfl) (by simp) ?_
              refine AllReadyH.cons rfl (fun K hK => ?_) AllReadyH.nil
              go_simp
              have e0d : Ext w0 wd := Ext.trans e0q ed
              go_at_call 60
              with_reducible refine (hmove.out wd e0d).mono ?_
              rintro e w5 ⟨rfl, e5⟩
              have hS5 := hid (hSx.out w5 (Ext.trans ed e5))
              have hyz : Ext wo w5 := Ext.trans hy (Ext.trans ed e5)
              go_wp2_with fail
              refine hK.out _ _ hS5.out (fun _ => ?_)
              clear hK K
              try simp only [List.getElem_toArray, List.getElem_cons_succ, List.getElem_cons_zero, Act.put, List.setIfInBounds_toArray, List.set_cons_zero, List.set_cons_succ]
              refine wpAnyH_take (i := 22) (v := .int .i64 (yj + mv1)) rfl (by kernel_rfl) (by kernel_rfl) (by kernel_rfl) (fun _ _ _ h => h) (Or.inl ⟨by rfl, by intro wx hx; (go_simp; exact IntWalk.i64_in _ (by omega))⟩) (by assumption) ?_
              try simp only [List.getElem_toArray, List.getElem_cons_succ, List.getElem_cons_zero, Act.put, List.setIfInBounds_toArray, List.set_cons_zero, List.set_cons_succ]
              refine wpAnyH_take (i := 23) (v := .bool false) rfl (by kernel_rfl) (by kernel_rfl) (by kernel_rfl) (fun _ _ _ h => h) (Or.inl ⟨by rfl, by intro wx hx; go_simp⟩) (by assumption) ?_
              try simp only [List.getElem_toArray, List.getElem_cons_succ, List.getElem_cons_zero, Act.put, List.setIfInBounds_toArray, List.set_cons_zero, List.set_cons_succ]
              refine wpAnyH_take (i := 24) (v := .bool false) rfl (by kernel_rfl) (by kernel_rfl) (by kernel_rfl) (fun _ _ _ h => h) (Or.inl ⟨by rfl, by intro wx hx; go_simp⟩) (by assumption) ?_
              try simp only [List.getElem_toArray, List.getElem_cons_succ, List.getElem_cons_zero, Act.put, List.setIfInBounds_toArray, List.set_cons_zero, List.set_cons_succ]
              refine wpAnyH_done (by kernel_rfl) ?_ _
              clear hSx hHeld0 hS5
              go_wp2_with fail
              go_roundw
              case rel => exact ⟨j + 1, by omega, by go_num, by rw [← ho2.out, hres.out], hyz⟩
              case measure => simp [intOf]; omega
        · have hje : j = P.length := by omega
          subst hje
          rw [sup_ok]
          have ownt := own.ext (w' := wq)
          have hBt : B ≤ wq.heap.size := Nat.le_trans hBo hy.size
          have hbt : Below B w1 wq := hb.trans (hy.below.mono hBo)
          clear own hb
          cases hs : supOk M P ws i with
          | false =>
            have hsx := hid (show supTo M P ws (i + 1) = supTo M P ws i by rw [supTo, hs]; rfl)
            replace hs := hid hs
            go_wp2_with fail
            go_roundw
            case rel => exact ⟨i + 1, dO, nO, mO, by omega, by go_num, rfl, hid (by rw [hsx.out]; exact hnO.out), by rw [hsx.out]; exact ownt, hbt⟩
            case measure => simp [intOf]; omega
          | true =>
            have hsx := hid (show ((supTo M P ws (i + 1)).map fun q : Nat => (q : Int)) = ((supTo M P ws i).map fun q : Nat => (q : Int)) ++ [(i : Int)] by rw [supTo, hs]; simp)
            replace hs := hid hs
            have hln : ((supTo M P ws i).map fun q : Nat => (q : Int)).length ≤ 1000 := by have := sup_len (M := M) (P := P) (ws := ws) i; rw [List.length_map]; omega
            obtain ⟨X, hX⟩ : ∃ z, z = (supTo M P ws i).map fun q : Nat => (q : Int) := ⟨_, rfl⟩
            rw [← hX] at ownt hsx hln hnO
            replace hX := hid hX
            have hn1000 : nO ≤ 1000 := by rw [hnO.out]; exact hln
            have own' : Own wq B (⟨3, 1, .slice dO nO mO, nO, X.map (Value.int .i64)⟩ :: []) := by
              have h := ownt
              unfold intRowOf at h
              rw [← hnO.out] at h
              exact h
            replace hln := hid hln
            clear ownt
            go_wp2_with (at_builtin; refine wpList_append1 rfl _ _ _ rfl elemInt rfl own' hBt rfl rfl (by omega) (by omega) ?_; intro v7 w7 ho hb7)
            obtain ⟨d7, m7, hv7⟩ := ho.form
            have hv7' : v7 = .slice d7 (nO + 1) m7 := hv7
            subst hv7'
            have own7 : Own w7 B [intRowOf 3 (.slice d7 (nO + 1) m7) (X ++ [(i : Int)])] := ow_snoc ho hnO.out
            clear hv7
            go_roundw
            case rel => exact ⟨i + 1, d7, nO + 1, m7, by omega, by go_num, rfl, hid (by rw [hsx.out, List.length_append, ← hnO.out]; rfl), by rw [hsx.out]; exact own7, hbt.trans hb7⟩
            case measure => simp [intOf]; omega
    · have hie : i = P.length := by omega
      subst hie
      go_wp2_with fail
      go_ret
      exact ⟨_, rfl, own.mono (by rw [hB.out]; exact e1.size), Ext.trans e1 eo⟩
end Go.Proofs.Ytkibmjenjgijmaa
