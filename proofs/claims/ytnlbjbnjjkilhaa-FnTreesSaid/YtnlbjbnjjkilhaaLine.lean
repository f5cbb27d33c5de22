/- Metrics of places on a line, as draws make them. -/
import Derived.Test.YtnlbjbnjjkilhaaUni
namespace Go.Proofs.Ytnlbjbnjjkilhaa
open Go.RowKit

theorem l1Most_any (a b : Int) (w : World) :
    Calls Try.prog 83 #[.int .i64 a, .int .i64 b] w fun e w' => e = .returned (.int .i64 (max a b)) ∧ w = w' := by
  by_cases h : a > b
  · have hr := hid (show max a b = a by omega)
    have h' : decide (b < a) = true := by simpa using h
    go_enter Try.func83, Try.ntmps83
    go_wp2
    go_ret
    exact ⟨ret_int hr.out.symm, rfl⟩
  · have hr := hid (show max a b = b by omega)
    have h' : decide (b < a) = false := by simpa using h
    go_enter Try.func83, Try.ntmps83
    go_wp2
    go_ret
    exact ⟨ret_int hr.out.symm, rfl⟩
/-- n rows of n numbers each, all small -/
def TabOk (M : List (List Int)) (n : Nat) : Prop := M.length = n ∧ ∀ j, j < n → (row M j).length = n ∧ ∀ q, q < n → -100000 ≤ cell M j q ∧ cell M j q ≤ 100000
theorem TabOk.set {M : List (List Int)} {n : Nat} (h : TabOk M n) {j : Nat} (q : Nat) {x : Int} (hj : j < n) (hx : -100000 ≤ x ∧ x ≤ 100000) : TabOk (M.set j ((row M j).set q x)) n := by
  obtain ⟨h1, h2⟩ := h
  refine ⟨by rw [List.length_set, h1], fun i hi => ?_⟩
  by_cases e : i = j
  · subst e
    have er : row (M.set i ((row M i).set q x)) i = (row M i).set q x := by
      unfold row
      rw [List.getD_eq_getElem?_getD, List.getElem?_set_self (by omega)]
      rfl
    refine ⟨by rw [er, List.length_set]; exact (h2 i hi).1, fun p hp => ?_⟩
    unfold cell
    rw [er]
    by_cases e2 : p = q
    · subst e2
      have : nth ((row M i).set p x) p = x := by
        unfold nth
        rw [List.getD_eq_getElem?_getD, List.getElem?_set_self (by rw [(h2 i hi).1]; exact hp)]
        rfl
      rw [this]; exact hx
    · have : nth ((row M i).set q x) p = nth (row M i) p := by
        unfold nth
        rw [List.getD_eq_getElem?_getD, List.getElem?_set_ne (Ne.symm e2), List.getD_eq_getElem?_getD]
      rw [this]
      exact (h2 i hi).2 p hp
  · have er : row (M.set j ((row M j).set q x)) i = row M i := by
      unfold row
      rw [List.getD_eq_getElem?_getD, List.getElem?_set_ne (Ne.symm e), List.getD_eq_getElem?_getD]
    unfold cell
    rw [er]
    exact h2 i hi
theorem TabOk.uni {n : Nat} {d : Int} (hd : -100000 ≤ d ∧ d ≤ 100000) : TabOk (uniTab (fun x y => if x = y then 0 else d) n n) n := by
  refine ⟨uniTab_length _ _ _, fun j hj => ?_⟩
  have er : row (uniTab (fun x y => if x = y then 0 else d) n n) j = uniRow (fun x y => if x = y then 0 else d) j n := by simp [row, uniTab, hj]
  refine ⟨by rw [er, uniRow_length], fun q hq => ?_⟩
  unfold cell
  rw [er]
  have : nth (uniRow (fun x y => if x = y then 0 else d) j n) q = if j = q then 0 else d := by simp [nth, uniRow, hq]
  rw [this]
  split <;> omega
set_option maxHeartbeats 3200000 in
set_option maxRecDepth 100000 in
theorem l6Line_any {v : Value} {P : List Int} {w0 w : World} [Ext w0 w] (hP : IsInts w0 v P) (hl : P.length ≤ 1000) (hb : ∀ j, j < P.length → 0 ≤ nth P j ∧ nth P j ≤ 100000) :
    Calls Try.prog 56 #[v] w fun e w' => ∃ d0 m0 vs M, e = .returned (.agg #[.slice d0 P.length m0]) ∧ vs.length = P.length ∧ TabOk M P.length ∧
      Own w' w.heap.size (rowsOf 24 3 (.slice d0 P.length m0) vs M) ∧ Ext w w' := by
  obtain ⟨aP, cP, rfl, lP⟩ := hP.form
  replace hb := hid hb
  have hPc := hid (show ∀ x, x < P.length → (∃ b o, aP = some ⟨b, o, none⟩ ∧ w0.cell? ⟨b, o + x, none⟩ = some (.int .i64 (nth P x))) from fun x hx => by
    obtain ⟨b, o, h1, h2⟩ := hP.at (w' := w0) hx
    exact ⟨b, o, h1, h2⟩)
  go_enter Try.func56, Try.ntmps56
  go_upto_region 1 with fail
  have ez : Ext w (w.alloc (.cells #[.slice none 0 0] 29)) := inferInstance
  have z0 : (w.alloc (.cells #[.slice none 0 0] 29)).cell? ⟨w.heap.size, 0, none⟩ = some (.slice none 0 0) := by go_simp
  have zf : (w.alloc (.cells #[.slice none 0 0] 29)).frozen? ⟨w.heap.size, 0, none⟩ = false := by go_simp
  have zs : (w.alloc (.cells #[.slice none 0 0] 29)).heap.size = w.heap.size + 1 := by simp
  generalize w.alloc (.cells #[.slice none 0 0] 29) = wa at *
  replace zs := hid zs
  go_wp2_with fail
  refine (l6Uniform_any (n := P.length) (d := 0) hl wa).mono ?_
  rintro e w1 ⟨d0, m0, vs, rfl, hvs, hown, he1⟩
  rw [zs.out] at hown
  have hM0 : TabOk (uniTab (fun x y => if x = y then 0 else (0 : Int)) P.length P.length) P.length := TabOk.uni (by omega)
  generalize uniTab (fun x y => if x = y then 0 else (0 : Int)) P.length P.length = M0 at *
  have hB1 : w.heap.size + 1 ≤ w1.heap.size := by have := he1.size; have := zs.out; omega
  have own0 : Own (w1.alloc (.cells #[.slice d0 P.length m0] 29)) (w.heap.size + 1) (rowsOf 24 3 (.slice d0 P.length m0) vs M0 ++ [boxRow 29 1 w1.heap.size [.slice d0 P.length m0]]) := by
    have h2 := hown.lit 29 1 1 #[.slice d0 P.length m0] hB1 (by unfold maxLen; omega) rfl
    exact h2.perm (List.perm_append_comm (l₁ := rowsOf _ _ _ _ _) (l₂ := [_]))
  have eW : Ext w (w1.alloc (.cells #[.slice d0 P.length m0] 29)) := Ext.trans ez (Ext.trans he1 inferInstance)
  have x0 : (w1.alloc (.cells #[.slice d0 P.length m0] 29)).cell? ⟨w.heap.size, 0, none⟩ = some (.slice none 0 0) := Ext.cell (a := w1) inferInstance (he1.cell z0)
  have xf : (w1.alloc (.cells #[.slice d0 P.length m0] 29)).frozen? ⟨w.heap.size, 0, none⟩ = false := Ext.frozen (a := w1) inferInstance (he1.cell z0) (he1.frozen z0 zf)
  have hBW : w.heap.size + 1 ≤ (w1.alloc (.cells #[.slice d0 P.length m0] 29)).heap.size := Nat.le_trans hB1 (Ext.size (a := w1) inferInstance)
  clear z0 zf hown
  obtain ⟨b, hbb⟩ : ∃ b, b = w1.heap.size := ⟨_, rfl⟩
  rw [← hbb] at own0
  go_upto_region 2 with fail
  generalize w1.alloc (.cells #[.slice d0 P.length m0] 29) = W at *
  rw [← hbb]
  replace hbb := hid hbb
  replace hvs := hid hvs
  replace hM0 := hid hM0
  go_wp2
  go_loopw [4] (fun i wr => ∃ x : Nat, x ≤ P.length ∧ i = .int .i64 x ∧ Below (w.heap.size + 1) W wr ∧ ∃ M, TabOk M P.length ∧ Own wr (w.heap.size + 1) (rowsOf 24 3 (.slice d0 P.length m0) vs M ++ [boxRow 29 1 b [.slice d0 P.length m0]])) (fun i _ => P.length - (intOf i).toNat)
  case atStart => exact ⟨0, by omega, rfl, Below.refl _ _, _, hM0.out, own0⟩
  case round =>
    obtain ⟨x, hx, rfl, hb0, M, hM, hown⟩ := hrel
    obtain ⟨wo, rfl⟩ : ∃ y : World, y = wr := ⟨_, rfl⟩
    by_cases hlt : x < P.length
    · replace hM := hid hM
      go_wp2
      go_loopw [5] (fun j wr => ∃ y : Nat, y ≤ P.length ∧ j = .int .i64 y ∧ Below (w.heap.size + 1) W wr ∧ ∃ M, TabOk M P.length ∧ Own wr (w.heap.size + 1) (rowsOf 24 3 (.slice d0 P.length m0) vs M ++ [boxRow 29 1 b [.slice d0 P.length m0]])) (fun j _ => P.length - (intOf j).toNat)
      case atStart => exact ⟨0, by omega, rfl, hb0, M, hM.out, hown⟩
      case round =>
        obtain ⟨y, hy, rfl, hb1, M1, hM1, hown1⟩ := hrel
        obtain ⟨wq, rfl⟩ : ∃ y : World, y = wr := ⟨_, rfl⟩
        by_cases hlty : y < P.length
        · have eq : Ext w wq := ⟨eW.below.trans (hb1.mono (Nat.le_succ _))⟩
          have e0q : Ext w0 wq := Ext.trans ‹Ext w0 w› eq
          obtain ⟨bp, op, rfl, hcx⟩ := hP.at (w' := wq) hlt
          obtain ⟨bp2, op2, hpp, hcy⟩ := hP.at (w' := wq) hlty
          cases hpp
          have hbx := hb.out x hlt
          have hby := hb.out y hlty
          obtain ⟨gr, mr, hu, hBg⟩ := rw_form hown1 (by rw [hvs.out, hM1.1]) (j := x) (by rw [hM1.1]; exact hlt) (by rw [(hM1.2 x hlt).1]; omega)
          rw [(hM1.2 x hlt).1] at hu
          have hdd : ∃ gd, d0 = some ⟨gd, 0, none⟩ := by
            have h1 : Own wq (w.heap.size + 1) (⟨24, 1, .slice d0 P.length m0, vs.length, vs⟩ :: (List.zipWith (intRowOf 3) vs M1 ++ [boxRow 29 1 b [.slice d0 P.length m0]])) := hown1
            rw [hvs.out] at h1
            exact h1.at (j := 0) (by omega)
          obtain ⟨gd, rfl⟩ := hdd
          have tb : wq.cell? ⟨b, 0, none⟩ = some (.slice (some ⟨gd, 0, none⟩) P.length m0) := ow_cell hown1 (List.mem_append_right _ (List.Mem.head _)) (j := 0) (by omega)
          have tg := (rw_cell hown1 hvs.out hu).1
          have tq := (rw_at hown1 (by rw [hM1.1]; exact hlt) hu (hM1.2 x hlt).1 hlty)
          have hnew := rw_put hown1 (by rw [hvs.out, hM1.1]) (by rw [hM1.1]; exact hlt) hu (hM1.2 x hlt).1 y (max (nth P x - nth P y) (nth P y - nth P x))
          have hMn := hid (hM1.set y (x := max (nth P x - nth P y) (nth P y - nth P x)) hlt (by omega))
          obtain ⟨px, hpx⟩ : ∃ q, q = nth P x := ⟨_, rfl⟩
          obtain ⟨py, hpy⟩ : ∃ q, q = nth P y := ⟨_, rfl⟩
          rw [← hpx] at hcx hbx
          rw [← hpy] at hcy hby
          rw [← hpx, ← hpy] at hnew hMn
          clear hpx hpy
          obtain ⟨mx, hmx⟩ : ∃ q, q = max (px - py) (py - px) := ⟨_, rfl⟩
          rw [← hmx] at hnew hMn
          have hmxi := hid hmx.symm
          clear hmx
          have hMx1 := hid hM1
          clear hM1
          go_upto_region 8 with fail
          have ed : Ext wq wq.drew := inferInstance
          have tb' := ed.cell tb
          have tg' := ed.cell tg
          have cx' := ed.cell hcx
          have cy' := ed.cell hcy
          have tq' := ed.cell tq.1
          have tqf' := ed.frozen tq.1 tq.2
          have hbd : Below (w.heap.size + 1) W wq.drew := hb1.drew
          have hnew' : Own (wq.drew.setCell ⟨gr, y, none⟩ (.int .i64 mx)) (w.heap.size + 1) (rowsOf 24 3 (.slice (some ⟨gd, 0, none⟩) P.length m0) vs (M1.set x ((row M1 x).set y mx)) ++ [boxRow 29 1 b [.slice (some ⟨gd, 0, none⟩) P.length m0]]) := hnew
          clear tb tg hcx hcy hnew ed hb1
          refine wp_region_held_drew (S := fun w' => Below (w.heap.size + 1) W w' ∧ w'.cell? ⟨b, 0, none⟩ = some (.slice (some ⟨gd, 0, none⟩) P.length m0) ∧ w'.cell? ⟨gd, x, none⟩ = some (.slice (some ⟨gr, 0, none⟩) P.length mr) ∧ w'.cell? ⟨bp, op + x, none⟩ = some (.int .i64 px) ∧ w'.cell? ⟨bp, op + y, none⟩ = some (.int .i64 py)) (by kernel_rfl) ⟨hbd, tb', tg', cx', cy'⟩ (fun hHeld0 => ?_)
          generalize wq.drew = wd at *
          have hcu := (hu)
          replace hu := hid hu
          have hbW : Below (w.heap.size + 1) W (wd.setCell ⟨gr, y, none⟩ (.int .i64 mx)) := hbd.setCell hBg _
          have hSf : (wd.setCell ⟨gr, y, none⟩ (.int .i64 mx)).cell? ⟨b, 0, none⟩ = some (.slice (some ⟨gd, 0, none⟩) P.length m0) ∧ (wd.setCell ⟨gr, y, none⟩ (.int .i64 mx)).cell? ⟨gd, x, none⟩ = some (.slice (some ⟨gr, 0, none⟩) P.length mr) ∧ (wd.setCell ⟨gr, y, none⟩ (.int .i64 mx)).cell? ⟨bp, op + x, none⟩ = some (.int .i64 px) ∧ (wd.setCell ⟨gr, y, none⟩ (.int .i64 mx)).cell? ⟨bp, op + y, none⟩ = some (.int .i64 py) := by
            have hne : bp ≠ gr := by
              obtain ⟨b1, o1, h4, h5⟩ := hPc.out x hlt
              cases h4
              have h1 := World.block_lt_of_cell? w0 _ h5
              have h2 := (‹Ext w0 w›).size
              intro e
              subst e
              simp at h1
              omega
            refine ⟨ow_cell hnew' (List.mem_append_right _ (List.Mem.head _)) (j := 0) (by omega), (rw_cell hnew' hvs.out hcu).1, ?_, ?_⟩
            · rw [World.cell?_setCell_far _ _ _ _ hne.symm]; exact cx'
            · rw [World.cell?_setCell_far _ _ _ _ hne.symm]; exact cy'
          replace hSf := hid hSf
          clear hcu
          refine wpAnyH_take (i := 0) (v := .pointer (some ⟨b, 0, none⟩)) rfl (by kernel_rfl) (by kernel_rfl) (by kernel_rfl) (fun _ _ _ h => h) (Or.inl ⟨by rfl, by intro wx hx; go_simp⟩) (by assumption) ?_
          try simp only [List.getElem_toArray, List.getElem_cons_zero, Act.put, List.setIfInBounds_toArray, List.set_cons_zero, List.set_cons_succ]
          refine wpAnyH_take (i := 1) (v := .slice (some ⟨gd, 0, none⟩) P.length m0) rfl (by kernel_rfl) (by kernel_rfl) (by kernel_rfl) (fun _ _ _ h => h) (Or.inl ⟨by rfl, by intro wx hx; obtain ⟨_, _, _, _, _⟩ := hx; go_simp⟩) (by assumption) ?_
          try simp only [List.getElem_toArray, List.getElem_cons_succ, List.getElem_cons_zero, Act.put, List.setIfInBounds_toArray, List.set_cons_zero, List.set_cons_succ]
          refine wpAnyH_take (i := 2) (v := .int .i64 x) rfl (by kernel_rfl) (by kernel_rfl) (by kernel_rfl) (fun _ _ _ h => h) (Or.inl ⟨by rfl, by intro wx hx; go_simp⟩) (by assumption) ?_
          try simp only [List.getElem_toArray, List.getElem_cons_succ, List.getElem_cons_zero, Act.put, List.setIfInBounds_toArray, List.set_cons_zero, List.set_cons_succ]
          refine wpAnyH_take (i := 3) (v := .pointer (some ⟨gd, x, none⟩)) rfl (by kernel_rfl) (by kernel_rfl) (by kernel_rfl) (fun _ _ _ h => h) (Or.inl ⟨by rfl, by intro wx hx; go_simp⟩) (by assumption) ?_
          try simp only [List.getElem_toArray, List.getElem_cons_succ, List.getElem_cons_zero, Act.put, List.setIfInBounds_toArray, List.set_cons_zero, List.set_cons_succ]
          refine wpAnyH_take (i := 4) (v := .slice (some ⟨gr, 0, none⟩) P.length mr) rfl (by kernel_rfl) (by kernel_rfl) (by kernel_rfl) (fun _ _ _ h => h) (Or.inl ⟨by rfl, by intro wx hx; obtain ⟨_, _, _, _, _⟩ := hx; go_simp⟩) (by assumption) ?_
          try simp only [List.getElem_toArray, List.getElem_cons_succ, List.getElem_cons_zero, Act.put, List.setIfInBounds_toArray, List.set_cons_zero, List.set_cons_succ]
          refine wpAnyH_take (i := 5) (v := .int .i64 y) rfl (by kernel_rfl) (by kernel_rfl) (by kernel_rfl) (fun _ _ _ h => h) (Or.inl ⟨by rfl, by intro wx hx; go_simp⟩) (by assumption) ?_
          try simp only [List.getElem_toArray, List.getElem_cons_succ, List.getElem_cons_zero, Act.put, List.setIfInBounds_toArray, List.set_cons_zero, List.set_cons_succ]
          refine wpAnyH_take (i := 6) (v := .slice (some ⟨bp, op, none⟩) P.length cP) rfl (by kernel_rfl) (by kernel_rfl) (by kernel_rfl) (fun _ _ _ h => h) (Or.inl ⟨by rfl, by intro wx hx; go_simp⟩) (by assumption) ?_
          try simp only [List.getElem_toArray, List.getElem_cons_succ, List.getElem_cons_zero, Act.put, List.setIfInBounds_toArray, List.set_cons_zero, List.set_cons_succ]
          refine wpAnyH_take (i := 7) (v := .int .i64 x) rfl (by kernel_rfl) (by kernel_rfl) (by kernel_rfl) (fun _ _ _ h => h) (Or.inl ⟨by rfl, by intro wx hx; go_simp⟩) (by assumption) ?_
          try simp only [List.getElem_toArray, List.getElem_cons_succ, List.getElem_cons_zero, Act.put, List.setIfInBounds_toArray, List.set_cons_zero, List.set_cons_succ]
          refine wpAnyH_take (i := 8) (v := .pointer (some ⟨bp, op + x, none⟩)) rfl (by kernel_rfl) (by kernel_rfl) (by kernel_rfl) (fun _ _ _ h => h) (Or.inl ⟨by rfl, by intro wx hx; go_simp⟩) (by assumption) ?_
          try simp only [List.getElem_toArray, List.getElem_cons_succ, List.getElem_cons_zero, Act.put, List.setIfInBounds_toArray, List.set_cons_zero, List.set_cons_succ]
          refine wpAnyH_take (i := 9) (v := .int .i64 px) rfl (by kernel_rfl) (by kernel_rfl) (by kernel_rfl) (fun _ _ _ h => h) (Or.inl ⟨by rfl, by intro wx hx; obtain ⟨_, _, _, _, _⟩ := hx; go_simp⟩) (by assumption) ?_
          try simp only [List.getElem_toArray, List.getElem_cons_succ, List.getElem_cons_zero, Act.put, List.setIfInBounds_toArray, List.set_cons_zero, List.set_cons_succ]
          refine wpAnyH_take (i := 10) (v := .slice (some ⟨bp, op, none⟩) P.length cP) rfl (by kernel_rfl) (by kernel_rfl) (by kernel_rfl) (fun _ _ _ h => h) (Or.inl ⟨by rfl, by intro wx hx; go_simp⟩) (by assumption) ?_
          try simp only [List.getElem_toArray, List.getElem_cons_succ, List.getElem_cons_zero, Act.put, List.setIfInBounds_toArray, List.set_cons_zero, List.set_cons_succ]
          refine wpAnyH_take (i := 11) (v := .int .i64 y) rfl (by kernel_rfl) (by kernel_rfl) (by kernel_rfl) (fun _ _ _ h => h) (Or.inl ⟨by rfl, by intro wx hx; go_simp⟩) (by assumption) ?_
          try simp only [List.getElem_toArray, List.getElem_cons_succ, List.getElem_cons_zero, Act.put, List.setIfInBounds_toArray, List.set_cons_zero, List.set_cons_succ]
          refine wpAnyH_take (i := 12) (v := .pointer (some ⟨bp, op + y, none⟩)) rfl (by kernel_rfl) (by kernel_rfl) (by kernel_rfl) (fun _ _ _ h => h) (Or.inl ⟨by rfl, by intro wx hx; go_simp⟩) (by assumption) ?_
          try simp only [List.getElem_toArray, List.getElem_cons_succ, List.getElem_cons_zero, Act.put, List.setIfInBounds_toArray, List.set_cons_zero, List.set_cons_succ]
          refine wpAnyH_take (i := 13) (v := .int .i64 py) rfl (by kernel_rfl) (by kernel_rfl) (by kernel_rfl) (fun _ _ _ h => h) (Or.inl ⟨by rfl, by intro wx hx; obtain ⟨_, _, _, _, _⟩ := hx; go_simp⟩) (by assumption) ?_
          try simp only [List.getElem_toArray, List.getElem_cons_succ, List.getElem_cons_zero, Act.put, List.setIfInBounds_toArray, List.set_cons_zero, List.set_cons_succ]
          refine wpAnyH_take (i := 14) (v := .int .i64 (px - py)) rfl (by kernel_rfl) (by kernel_rfl) (by kernel_rfl) (fun _ _ _ h => h) (Or.inl ⟨by rfl, by intro wx hx; go_simp; exact IntWalk.i64_in _ (by omega)⟩) (by assumption) ?_
          try simp only [List.getElem_toArray, List.getElem_cons_succ, List.getElem_cons_zero, Act.put, List.setIfInBounds_toArray, List.set_cons_zero, List.set_cons_succ]
          refine wpAnyH_take (i := 15) (v := .slice (some ⟨bp, op, none⟩) P.length cP) rfl (by kernel_rfl) (by kernel_rfl) (by kernel_rfl) (fun _ _ _ h => h) (Or.inl ⟨by rfl, by intro wx hx; go_simp⟩) (by assumption) ?_
          try simp only [List.getElem_toArray, List.getElem_cons_succ, List.getElem_cons_zero, Act.put, List.setIfInBounds_toArray, List.set_cons_zero, List.set_cons_succ]
          refine wpAnyH_take (i := 16) (v := .int .i64 y) rfl (by kernel_rfl) (by kernel_rfl) (by kernel_rfl) (fun _ _ _ h => h) (Or.inl ⟨by rfl, by intro wx hx; go_simp⟩) (by assumption) ?_
          try simp only [List.getElem_toArray, List.getElem_cons_succ, List.getElem_cons_zero, Act.put, List.setIfInBounds_toArray, List.set_cons_zero, List.set_cons_succ]
          refine wpAnyH_take (i := 17) (v := .pointer (some ⟨bp, op + y, none⟩)) rfl (by kernel_rfl) (by kernel_rfl) (by kernel_rfl) (fun _ _ _ h => h) (Or.inl ⟨by rfl, by intro wx hx; go_simp⟩) (by assumption) ?_
          try simp only [List.getElem_toArray, List.getElem_cons_succ, List.getElem_cons_zero, Act.put, List.setIfInBounds_toArray, List.set_cons_zero, List.set_cons_succ]
          refine wpAnyH_take (i := 18) (v := .int .i64 py) rfl (by kernel_rfl) (by kernel_rfl) (by kernel_rfl) (fun _ _ _ h => h) (Or.inl ⟨by rfl, by intro wx hx; obtain ⟨_, _, _, _, _⟩ := hx; go_simp⟩) (by assumption) ?_
          try simp only [List.getElem_toArray, List.getElem_cons_succ, List.getElem_cons_zero, Act.put, List.setIfInBounds_toArray, List.set_cons_zero, List.set_cons_succ]
          refine wpAnyH_take (i := 19) (v := .slice (some ⟨bp, op, none⟩) P.length cP) rfl (by kernel_rfl) (by kernel_rfl) (by kernel_rfl) (fun _ _ _ h => h) (Or.inl ⟨by rfl, by intro wx hx; go_simp⟩) (by assumption) ?_
          try simp only [List.getElem_toArray, List.getElem_cons_succ, List.getElem_cons_zero, Act.put, List.setIfInBounds_toArray, List.set_cons_zero, List.set_cons_succ]
          refine wpAnyH_take (i := 20) (v := .int .i64 x) rfl (by kernel_rfl) (by kernel_rfl) (by kernel_rfl) (fun _ _ _ h => h) (Or.inl ⟨by rfl, by intro wx hx; go_simp⟩) (by assumption) ?_
          try simp only [List.getElem_toArray, List.getElem_cons_succ, List.getElem_cons_zero, Act.put, List.setIfInBounds_toArray, List.set_cons_zero, List.set_cons_succ]
          refine wpAnyH_take (i := 21) (v := .pointer (some ⟨bp, op + x, none⟩)) rfl (by kernel_rfl) (by kernel_rfl) (by kernel_rfl) (fun _ _ _ h => h) (Or.inl ⟨by rfl, by intro wx hx; go_simp⟩) (by assumption) ?_
          try simp only [List.getElem_toArray, List.getElem_cons_succ, List.getElem_cons_zero, Act.put, List.setIfInBounds_toArray, List.set_cons_zero, List.set_cons_succ]
          refine wpAnyH_take (i := 22) (v := .int .i64 px) rfl (by kernel_rfl) (by kernel_rfl) (by kernel_rfl) (fun _ _ _ h => h) (Or.inl ⟨by rfl, by intro wx hx; obtain ⟨_, _, _, _, _⟩ := hx; go_simp⟩) (by assumption) ?_
          try simp only [List.getElem_toArray, List.getElem_cons_succ, List.getElem_cons_zero, Act.put, List.setIfInBounds_toArray, List.set_cons_zero, List.set_cons_succ]
          refine wpAnyH_take (i := 23) (v := .int .i64 (py - px)) rfl (by kernel_rfl) (by kernel_rfl) (by kernel_rfl) (fun _ _ _ h => h) (Or.inl ⟨by rfl, by intro wx hx; go_simp; exact IntWalk.i64_in _ (by omega)⟩) (by assumption) ?_
          try simp only [List.getElem_toArray, List.getElem_cons_succ, List.getElem_cons_zero, Act.put, List.setIfInBounds_toArray, List.set_cons_zero, List.set_cons_succ]
          refine wpAnyH_ready (rs := [24]) (by kernel_rfl) (by simp) ?_
          refine AllReadyH.cons rfl (fun K hK => ?_) AllReadyH.nil
          go_simp
          go_at_call 83
          refine (l1Most_any _ _ _).mono ?_
          rw [hmxi.out]
          rintro e w8 ⟨rfl, rfl⟩
          go_wp2_with fail
          refine hK.out _ _ hHeld0 (fun _ => ?_)
          clear hK K
          try simp only [List.getElem_toArray, List.getElem_cons_succ, List.getElem_cons_zero, Act.put, List.setIfInBounds_toArray, List.set_cons_zero, List.set_cons_succ]
          refine wpAnyH_take (i := 25) (v := .pointer (some ⟨gr, y, none⟩)) rfl (by kernel_rfl) (by kernel_rfl) (by kernel_rfl) (fun _ _ _ h => h) (Or.inl ⟨by rfl, by intro wx hx; go_simp⟩) (by assumption) ?_
          try simp only [List.getElem_toArray, List.getElem_cons_succ, List.getElem_cons_zero, Act.put, List.setIfInBounds_toArray, List.set_cons_zero, List.set_cons_succ]
          refine wpAnyH_ready (rs := [26]) (by kernel_rfl) (by simp) ?_
          refine AllReadyH.cons rfl (fun K hK => ?_) AllReadyH.nil
          go_simp
          refine hK.out _ _ ⟨hbW, hSf.out⟩ (fun _ => ?_)
          clear hK K
          try simp only [List.getElem_toArray, List.getElem_cons_succ, List.getElem_cons_zero, Act.put, List.setIfInBounds_toArray, List.set_cons_zero, List.set_cons_succ]
          refine wpAnyH_done (by kernel_rfl) ?_ _
          go_wp2_with fail
          go_roundw
          case rel => exact ⟨y + 1, by omega, by go_num, hbW, _, hMn.out, hnew'⟩
          case measure => simp [intOf]; omega
        · have hyn : y = P.length := by omega
          replace hyn := hid hyn
          go_wp2
          go_roundw
          case rel => exact ⟨x + 1, by omega, by go_num, hb1, M1, hM1, hown1⟩
          case measure => simp [intOf]; omega
    · have hxn : x = P.length := by omega
      replace hxn := hid hxn
      have tb : wo.cell? ⟨b, 0, none⟩ = some (.slice d0 P.length m0) := ow_cell hown (List.mem_append_right _ (List.Mem.head _)) (j := 0) (by omega)
      have xr : wo.cell? ⟨w.heap.size, 0, none⟩ = some (.slice none 0 0) := (hb0.cell (p := ⟨w.heap.size, 0, none⟩) (Nat.lt_succ_self _)).trans x0
      have xrf : wo.frozen? ⟨w.heap.size, 0, none⟩ = false := (hb0.frozen (p := ⟨w.heap.size, 0, none⟩) (Nat.lt_succ_self _)).trans xf
      have hset : (wo.setCell ⟨w.heap.size, 0, none⟩ (.slice d0 P.length m0)).cell? ⟨w.heap.size, 0, none⟩ = some (.slice d0 P.length m0) := by go_simp
      have hown3 := (hown.left.setBelow (p := ⟨w.heap.size, 0, none⟩) (Nat.lt_succ_self _) (.slice d0 P.length m0)).mono (Nat.le_succ _)
      have eF : Ext w (wo.setCell ⟨w.heap.size, 0, none⟩ (.slice d0 P.length m0)) := ⟨eW.below.trans ((hb0.mono (Nat.le_succ _)).setCell (Nat.le_refl _) _)⟩
      go_wp2
      refine bodyPost_ret (v := .agg #[.slice d0 P.length m0]) (by simp [results, Try.results56, go_sem, hset]) rfl ?_
      exact ⟨_, _, vs, M, rfl, hvs.out, hM, hown3, eF⟩
end Go.Proofs.Ytnlbjbnjjkilhaa
