/- What the laws compare with: lists with both answers, tables where both sides are equal. Written by vlaw.py. -/
import Derived.Test.YtnlbjbnjjkilhaaCur
import Derived.Test.YtnlbjbnjjkilhaaPackA
namespace Go.Proofs.Ytnlbjbnjjkilhaa
open Go.RowKit


set_option maxHeartbeats 800000 in
set_option maxRecDepth 100000 in
theorem rInts_any {v1 v2 : Value} {xs ys : List Int} {w0 w : World} [Ext w0 w] (hx : IsInts w0 v1 xs) (hy : IsInts w0 v2 ys) :
    Calls Try.prog 43 #[v1, v2] w fun e w' => e = .returned (.bool (decide (xs = ys))) ∧ Ext w w' := by
  obtain ⟨a, ca, rfl, la⟩ := hx.form
  obtain ⟨b, cb, rfl, lb⟩ := hy.form
  by_cases hn : xs.length = ys.length
  · have hne : ((xs.length : Int) != ys.length) = false := by simp [hn]
    replace hn := hid hn
    go_enter Try.func43, Try.ntmps43
    go_wp2
    go_loopw [5] (fun i wr => ∃ k : Nat, k ≤ xs.length ∧ i = .int .i64 k ∧ Hid (∀ j, j < k → nth xs j = nth ys j) ∧ Drew w wr) (fun i _ => xs.length - (intOf i).toNat)
    case atStart => exact ⟨0, by omega, rfl, by intro j hj; omega, Drew.refl _⟩
    case round =>
      obtain ⟨k, hk, rfl, heq, hd⟩ := hrel
      have ed : Ext w wr := hd.ext
      have e0 : Ext w0 wr := Ext.trans ‹Ext w0 w› ed
      by_cases hlt : k < xs.length
      · have hlt2 : k < ys.length := by have := hn.out; omega
        have hlt2' : (k : Int) < (ys.length : Int) := by omega
        obtain ⟨b1, o1, rfl, hc1⟩ := hx.at (w' := wr) hlt
        obtain ⟨b2, o2, rfl, hc2⟩ := hy.at (w' := wr) hlt2
        by_cases hc : nth xs k = nth ys k
        · have hc' : (nth xs k != nth ys k) = false := by simp [hc]
          replace hc := hid hc
          go_wp2_with (go_quiet (fail))
          go_roundw
          case rel =>
            refine ⟨k + 1, by omega, by go_num, ?_, hd.step _⟩
            intro j hj
            by_cases hjk : j = k
            · subst hjk; exact hc.out
            · exact heq.out j (by omega)
          case measure => simp [intOf]; omega
        · have hc' : (nth xs k != nth ys k) = true := by simpa using hc
          have hfin := hid (show decide (xs = ys) = false from decide_eq_false (fun h => hc (by rw [h])))
          replace hc := hid hc
          go_wp2_with (go_quiet (fail))
          go_ret
          exact ⟨ret_bool hfin.out.symm, Ext.trans ed inferInstance⟩
      · have hfin := hid (show decide (xs = ys) = true from decide_eq_true (eq_of_nth hn.out (fun j hj => heq.out j (by omega))))
        go_wp2
        go_ret
        exact ⟨ret_bool hfin.out.symm, ed⟩
  · have hne : ((xs.length : Int) != ys.length) = true := by simp; omega
    have hfin := hid (show decide (xs = ys) = false from decide_eq_false (fun h => hn (by rw [h])))
    replace hn := hid hn
    go_enter Try.func43, Try.ntmps43
    go_wp2
    go_ret
    exact ⟨ret_bool hfin.out.symm, Ext.refl _⟩
theorem rInts_same {v u : Value} {X : List Int} {w0 w : World} [Ext w0 w] (hv : IsInts w0 v X) (hu : IsInts w0 u X) :
    Calls Try.prog 43 #[v, u] w fun e w' => e = .returned (.bool true) ∧ Ext w w' := by
  refine (rInts_any hv hu).mono ?_
  rintro e w' ⟨rfl, e1⟩
  exact ⟨by rw [decide_eq_true rfl], e1⟩
set_option maxHeartbeats 400000 in
set_option maxRecDepth 100000 in
theorem rHas_any {v : Value} {xs : List Int} {x : Int} {w0 w : World} [Ext w0 w] (hx : IsInts w0 v xs) :
    Calls Try.prog 20 #[v, .int .i64 x] w fun e w' => e = .returned (.bool (hasB xs x)) ∧ w = w' := by
  obtain ⟨a, c, rfl, la⟩ := hx.form
  go_enter Try.func20, Try.ntmps20
  go_wp2
  go_loop [5] (fun i => ∃ k : Nat, k ≤ xs.length ∧ i = .int .i64 k ∧ Hid (∀ j, j < k → nth xs j ≠ x)) (fun i => xs.length - (intOf i).toNat)
  case atStart => exact ⟨0, by omega, rfl, by intro j hj; omega⟩
  case round =>
    obtain ⟨k, hk, rfl, hno⟩ := hrel
    by_cases hlt : k < xs.length
    · obtain ⟨b, o, rfl, hc⟩ := hx.at (w' := w) hlt
      by_cases he : nth xs k = x
      · have hr := hid (show hasB xs x = true from hasB_true.2 (mem_iff_nth.2 ⟨k, hlt, he⟩))
        have hb : (nth xs k == x) = true := by simp [he]
        replace he := hid he
        go_wp2
        go_ret
        exact ⟨ret_bool hr.out.symm, rfl⟩
      · have hb : (nth xs k == x) = false := by simpa using he
        replace he := hid he
        go_wp2
        go_round
        case rel =>
          refine ⟨k + 1, by omega, by go_num, fun j hj => ?_⟩
          by_cases e : j = k
          · rw [e]; exact he.out
          · exact hno.out j (by omega)
        case measure => simp [intOf]; omega
    · have hr := hid (show hasB xs x = false from hasB_false.2 fun h => by
        obtain ⟨j, hj, e⟩ := mem_iff_nth.1 h
        exact hno.out j (by omega) e)
      go_wp2
      go_ret
      exact ⟨ret_bool hr.out.symm, rfl⟩
set_option maxHeartbeats 400000 in
theorem rBig_l {v : Value} {n : Nat} {w : World} (hv : IsBytes w v n) :
    Calls Try.prog 4 #[v] w fun e w' => e = .returned (.bool (decide (65536 < n))) ∧ w = w' := by
  obtain ⟨a, c, rfl⟩ := hv.form
  by_cases h : 65536 < n
  · go_enter Try.func4, Try.ntmps4
    go_wp2
    go_ret
    exact ⟨ret_bool (decide_eq_decide.2 (by omega)), rfl⟩
  · go_enter Try.func4, Try.ntmps4
    go_wp2
    go_ret
    exact ⟨ret_bool (decide_eq_decide.2 (by omega)), rfl⟩
set_option maxHeartbeats 1600000 in
set_option maxRecDepth 100000 in
theorem rTable_l {v u : Value} {M : List (List Int)} {w0 w : World} [Ext w0 w] (hv : IsRows w0 v M) (hu : IsRows w0 u M) :
    Calls Try.prog 18 #[v, u] w fun e w' => e = .returned (.bool true) ∧ Ext w w' := by
  obtain ⟨a1, c1, rfl, l1⟩ := hv.form
  obtain ⟨a2, c2, rfl, l2⟩ := hu.form
  go_enter Try.func18, Try.ntmps18
  go_wp2
  go_loopw [5] (fun i wr => ∃ k : Nat, k ≤ M.length ∧ i = .int .i64 k ∧ Ext w wr) (fun i _ => M.length - (intOf i).toNat)
  case atStart => exact ⟨0, by omega, rfl, Ext.refl _⟩
  case round =>
    obtain ⟨k, hk, rfl, e2⟩ := hrel
    obtain ⟨wq, rfl⟩ : ∃ y : World, y = wr := ⟨_, rfl⟩
    have e0 : Ext w0 wq := Ext.trans ‹Ext w0 w› e2
    by_cases hlt : k < M.length
    · obtain ⟨b1, o1, d1, m1, rfl, hc1, hr1, _⟩ := hv.at (w' := wq) hlt
      obtain ⟨b2, o2, d2, m2, rfl, hc2, hr2, _⟩ := hu.at (w' := wq) hlt
      go_upto_region 6 with fail
      have ed : Ext wq (wq).drew := inferInstance
      refine wp_region_held_drew (S := fun w' => Ext wq w' ∧ w'.cell? ⟨b1, o1 + k, none⟩ = some (.slice d1 (row M k).length m1) ∧ w'.cell? ⟨b2, o2 + k, none⟩ = some (.slice d2 (row M k).length m2)) (by kernel_rfl) ⟨ed, ed.cell hc1, ed.cell hc2⟩ (fun hHeld0 => ?_)
      refine wpAnyH_take (i := 0) (v := .slice (some ⟨b1, o1, none⟩) M.length c1) rfl (by kernel_rfl) (by kernel_rfl) (by kernel_rfl) (fun _ _ _ h => h) (Or.inl ⟨by rfl, by intro wx hx; go_simp⟩) (by assumption) ?_
      try simp only [List.getElem_toArray, List.getElem_cons_zero, Act.put, List.setIfInBounds_toArray, List.set_cons_zero, List.set_cons_succ]
      refine wpAnyH_take (i := 1) (v := .int .i64 k) rfl (by kernel_rfl) (by kernel_rfl) (by kernel_rfl) (fun _ _ _ h => h) (Or.inl ⟨by rfl, by intro wx hx; go_simp⟩) (by assumption) ?_
      try simp only [List.getElem_toArray, List.getElem_cons_succ, List.getElem_cons_zero, Act.put, List.setIfInBounds_toArray, List.set_cons_zero, List.set_cons_succ]
      refine wpAnyH_take (i := 2) (v := .pointer (some ⟨b1, o1 + k, none⟩)) rfl (by kernel_rfl) (by kernel_rfl) (by kernel_rfl) (fun _ _ _ h => h) (Or.inl ⟨by rfl, by intro wx hx; go_simp⟩) (by assumption) ?_
      try simp only [List.getElem_toArray, List.getElem_cons_succ, List.getElem_cons_zero, Act.put, List.setIfInBounds_toArray, List.set_cons_zero, List.set_cons_succ]
      refine wpAnyH_take (i := 3) (v := .slice d1 (row M k).length m1) rfl (by kernel_rfl) (by kernel_rfl) (by kernel_rfl) (fun _ _ _ h => h) (Or.inl ⟨by rfl, by intro wx hx; obtain ⟨_, _, _⟩ := hx; go_simp⟩) (by assumption) ?_
      try simp only [List.getElem_toArray, List.getElem_cons_succ, List.getElem_cons_zero, Act.put, List.setIfInBounds_toArray, List.set_cons_zero, List.set_cons_succ]
      refine wpAnyH_take (i := 4) (v := .slice (some ⟨b2, o2, none⟩) M.length c2) rfl (by kernel_rfl) (by kernel_rfl) (by kernel_rfl) (fun _ _ _ h => h) (Or.inl ⟨by rfl, by intro wx hx; go_simp⟩) (by assumption) ?_
      try simp only [List.getElem_toArray, List.getElem_cons_succ, List.getElem_cons_zero, Act.put, List.setIfInBounds_toArray, List.set_cons_zero, List.set_cons_succ]
      refine wpAnyH_take (i := 5) (v := .int .i64 k) rfl (by kernel_rfl) (by kernel_rfl) (by kernel_rfl) (fun _ _ _ h => h) (Or.inl ⟨by rfl, by intro wx hx; go_simp⟩) (by assumption) ?_
      try simp only [List.getElem_toArray, List.getElem_cons_succ, List.getElem_cons_zero, Act.put, List.setIfInBounds_toArray, List.set_cons_zero, List.set_cons_succ]
      refine wpAnyH_take (i := 6) (v := .pointer (some ⟨b2, o2 + k, none⟩)) rfl (by kernel_rfl) (by kernel_rfl) (by kernel_rfl) (fun _ _ _ h => h) (Or.inl ⟨by rfl, by intro wx hx; go_simp⟩) (by assumption) ?_
      try simp only [List.getElem_toArray, List.getElem_cons_succ, List.getElem_cons_zero, Act.put, List.setIfInBounds_toArray, List.set_cons_zero, List.set_cons_succ]
      refine wpAnyH_take (i := 7) (v := .slice d2 (row M k).length m2) rfl (by kernel_rfl) (by kernel_rfl) (by kernel_rfl) (fun _ _ _ h => h) (Or.inl ⟨by rfl, by intro wx hx; obtain ⟨_, _, _⟩ := hx; go_simp⟩) (by assumption) ?_
      try simp only [List.getElem_toArray, List.getElem_cons_succ, List.getElem_cons_zero, Act.put, List.setIfInBounds_toArray, List.set_cons_zero, List.set_cons_succ]
      refine wpAnyH_ready (rs := [8]) (by kernel_rfl) (by simp) ?_
      refine AllReadyH.cons rfl (fun K hK => ?_) AllReadyH.nil
      go_simp
      go_at_call 43
      have e0d : Ext w0 wq.drew := Ext.trans e0 ed
      refine (rInts_same (w0 := w0) (w := wq.drew) hr1 hr2).mono ?_
      rintro e w5 ⟨rfl, hb5⟩
      go_wp2_with fail
      have er1 : Ext wq w5 := Ext.trans ed hb5
      refine hK.out _ _ ⟨er1, er1.cell hc1, er1.cell hc2⟩ (fun hHeld1 => ?_)
      clear hK K hHeld0
      try simp only [List.getElem_toArray, List.getElem_cons_succ, List.getElem_cons_zero, Act.put, List.setIfInBounds_toArray, List.set_cons_zero, List.set_cons_succ]
      refine wpAnyH_take (i := 9) (v := .bool false) rfl (by kernel_rfl) (by kernel_rfl) (by kernel_rfl) (fun _ _ _ h => h) (Or.inl ⟨by rfl, by intro wx hx; go_simp⟩) (by assumption) ?_
      try simp only [List.getElem_toArray, List.getElem_cons_succ, List.getElem_cons_zero, Act.put, List.setIfInBounds_toArray, List.set_cons_zero, List.set_cons_succ]
      refine wpAnyH_done (by kernel_rfl) ?_ _
      go_wp2_with fail
      go_roundw
      case rel => exact ⟨k + 1, by omega, by go_num, Ext.trans e2 er1⟩
      case measure => simp [intOf]; omega
    · go_wp2
      go_ret
      exact ⟨rfl, e2⟩
end Go.Proofs.Ytnlbjbnjjkilhaa
