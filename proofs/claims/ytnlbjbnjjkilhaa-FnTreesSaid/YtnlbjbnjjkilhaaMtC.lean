/- The metric of a star, as draws make it. -/
import Derived.Test.YtnlbjbnjjkilhaaMtB
namespace Go.Proofs.Ytnlbjbnjjkilhaa
open Go.RowKit

set_option maxHeartbeats 3200000 in
set_option maxRecDepth 100000 in
theorem starMetric_any {v : Value} {P : List Int} {w0 w : World} [Ext w0 w] (hP : IsInts w0 v P) (h1 : 1 ≤ P.length) (hl : P.length ≤ 6) (hb : ∀ j, j < P.length → 1 ≤ nth P j ∧ nth P j ≤ 49) :
    Calls Try.prog 57 #[v] w fun e w' => ∃ d0 m0 vs M, e = .returned (.tuple #[.agg #[.slice d0 P.length m0], .bool true]) ∧ vs.length = P.length ∧ SqOk M P.length ∧
      Own w' w.heap.size (rowsOf 24 3 (.slice d0 P.length m0) vs M) ∧ Ext w w' := by
  obtain ⟨aP, cP, rfl, lP⟩ := hP.form
  have hin := hid (show inB P.length 1 6 = true from inB_true.2 (by omega))
  replace hb := hid hb
  have hPc := hid (show ∀ x, x < P.length → (∃ b o, aP = some ⟨b, o, none⟩ ∧ w0.cell? ⟨b, o + x, none⟩ = some (.int .i64 (nth P x))) from fun x hx => by
    obtain ⟨b, o, h1, h2⟩ := hP.at (w' := w0) hx
    exact ⟨b, o, h1, h2⟩)
  go_enter Try.func57, Try.ntmps57
  go_upto_region 1 with fail
  have ez : Ext w (w.alloc (.cells #[.slice none 0 0] 29)) := inferInstance
  have z0 : (w.alloc (.cells #[.slice none 0 0] 29)).cell? ⟨w.heap.size, 0, none⟩ = some (.slice none 0 0) := by go_simp
  have zf : (w.alloc (.cells #[.slice none 0 0] 29)).frozen? ⟨w.heap.size, 0, none⟩ = false := by go_simp
  have zs : (w.alloc (.cells #[.slice none 0 0] 29)).heap.size = w.heap.size + 1 := by simp
  generalize w.alloc (.cells #[.slice none 0 0] 29) = wa at *
  replace zs := hid zs
  have e0a : Ext w0 wa := Ext.trans ‹Ext w0 w› ez
  go_wp2_with fail
  with_reducible refine (l1In_any _ _ _ _).mono ?_
  rw [hin.out]
  rintro e wx ⟨rfl, rfl⟩
  go_wp2_with fail
  go_loopw [4] (fun i wr => ∃ x : Nat, x ≤ P.length ∧ i = .int .i64 x ∧ Ext wa wr) (fun i _ => P.length - (intOf i).toNat)
  case atStart => exact ⟨0, by omega, rfl, Ext.refl _⟩
  case round =>
    obtain ⟨x, hx, rfl, eb⟩ := hrel
    obtain ⟨wb, rfl⟩ : ∃ y : World, y = wr := ⟨_, rfl⟩
    have e0b : Ext w0 wb := Ext.trans e0a eb
    by_cases hlt : x < P.length
    · obtain ⟨bp, op, rfl, hcx⟩ := hP.at (w' := wb) hlt
      have hbx := hid (show inB (nth P x) 1 49 = true from inB_true.2 (hb.out x hlt))
      generalize nth P x = px at *
      go_wp2_with fail
      with_reducible refine (l1In_any _ _ _ _).mono ?_
      rw [hbx.out]
      rintro e wx ⟨rfl, rfl⟩
      go_wp2_with fail
      go_roundw
      case rel => exact ⟨x + 1, by omega, by go_num, eb⟩
      case measure => simp [intOf]; omega
    · have hxP : x = P.length := by omega
      replace hxP := hid hxP
      replace zf := eb.frozen z0 zf
      replace z0 := eb.cell z0
      have zsz := hid (show w.heap.size + 1 ≤ wb.heap.size by have := eb.size; have := zs.out; omega)
      go_wp2_with fail
      refine (l6Uniform_any (n := P.length) (d := 0) (by omega) wb).mono ?_
      rintro e w1 ⟨d0, m0, vs, rfl, hvs, hown, he1⟩
      have hM0 : SqOk (uniTab (fun x y => if x = y then 0 else (0 : Int)) P.length P.length) P.length := SqOk.uni (by unfold I64; omega)
      generalize uniTab (fun x y => if x = y then 0 else (0 : Int)) P.length P.length = M0 at *
      have hownB := hown.mono zsz.out
      have hB1 : w.heap.size + 1 ≤ w1.heap.size := Nat.le_trans zsz.out he1.size
      have own0 : Own (w1.alloc (.cells #[.slice d0 P.length m0] 29)) (w.heap.size + 1) (rowsOf 24 3 (.slice d0 P.length m0) vs M0 ++ [boxRow 29 1 w1.heap.size [.slice d0 P.length m0]]) := by
        have h2 := hownB.lit 29 1 1 #[.slice d0 P.length m0] hB1 (by unfold maxLen; omega) rfl
        exact h2.perm (List.perm_append_comm (l₁ := rowsOf _ _ _ _ _) (l₂ := [_]))
      have eb1 : Ext wb (w1.alloc (.cells #[.slice d0 P.length m0] 29)) := Ext.trans he1 inferInstance
      have eW : Ext w (w1.alloc (.cells #[.slice d0 P.length m0] 29)) := Ext.trans ez (Ext.trans eb eb1)
      have x0 := eb1.cell z0
      have xf := eb1.frozen z0 zf
      have hBW : w.heap.size + 1 ≤ (w1.alloc (.cells #[.slice d0 P.length m0] 29)).heap.size := Nat.le_trans hB1 (Ext.size (a := w1) inferInstance)
      obtain ⟨b, hbb⟩ : ∃ b, b = w1.heap.size := ⟨_, rfl⟩
      rw [← hbb] at own0
      go_upto_region 9 with fail
      clear z0 zf hown hownB eb1
      generalize w1.alloc (.cells #[.slice d0 P.length m0] 29) = W at *
      rw [← hbb]
      replace hbb := hid hbb
      replace hvs := hid hvs
      replace hM0 := hid hM0
      go_wp2
      go_loopw [6] (fun i wr => ∃ x : Nat, x ≤ P.length ∧ i = .int .i64 x ∧ Below (w.heap.size + 1) W wr ∧ ∃ M, Hid (SqOk M P.length) ∧ Own wr (w.heap.size + 1) (rowsOf 24 3 (.slice d0 P.length m0) vs M ++ [boxRow 29 1 b [.slice d0 P.length m0]])) (fun i _ => P.length - (intOf i).toNat)
      case atStart => exact ⟨0, by omega, rfl, Below.refl _ _, _, hM0, own0⟩
      case round =>
        obtain ⟨x, hx, rfl, hb0, M, hM, hown⟩ := hrel
        obtain ⟨wo, rfl⟩ : ∃ y : World, y = wr := ⟨_, rfl⟩
        by_cases hlt : x < P.length
        · go_wp2
          go_loopw [7] (fun j wr => ∃ y : Nat, y ≤ P.length ∧ j = .int .i64 y ∧ Below (w.heap.size + 1) W wr ∧ ∃ M, Hid (SqOk M P.length) ∧ Own wr (w.heap.size + 1) (rowsOf 24 3 (.slice d0 P.length m0) vs M ++ [boxRow 29 1 b [.slice d0 P.length m0]])) (fun j _ => P.length - (intOf j).toNat)
          case atStart => exact ⟨0, by omega, rfl, hb0, M, hM, hown⟩
          case round =>
            obtain ⟨y, hy, rfl, hb1, M1, hM1, hown1⟩ := hrel
            obtain ⟨wq, rfl⟩ : ∃ y : World, y = wr := ⟨_, rfl⟩
            by_cases hlty : y < P.length
            · by_cases hxy : x = y
              · have hcc : ((x : Int) != (y : Int)) = false := by rw [hxy]; simp
                replace hxy := hid hxy
                go_wp2_with fail
                go_roundw
                case rel => exact ⟨y + 1, by omega, by go_num, hb1, M1, hM1, hown1⟩
                case measure => simp [intOf]; omega
              · have hcc : ((x : Int) != (y : Int)) = true := by simp; omega
                have eq : Ext w wq := ⟨eW.below.trans (hb1.mono (Nat.le_succ _))⟩
                have e0q : Ext w0 wq := Ext.trans ‹Ext w0 w› eq
                obtain ⟨bp, op, rfl, hcx⟩ := hP.at (w' := wq) hlt
                obtain ⟨bp2, op2, hpp, hcy⟩ := hP.at (w' := wq) hlty
                cases hpp
                have hbx := hb.out x hlt
                have hby := hb.out y hlty
                have hl1 := hid hM1.out.1
                have hrl := hid (hM1.out.rowlen hlt)
                obtain ⟨gr, mr, hu, hBg⟩ := rw_form hown1 (by rw [hvs.out, hl1.out]) (j := x) (by rw [hl1.out]; exact hlt) (by rw [hrl.out]; omega)
                rw [hrl.out] at hu
                obtain ⟨gd, rfl⟩ := rw_addr hown1 hvs.out (by omega)
                have tb : wq.cell? ⟨b, 0, none⟩ = some (.slice (some ⟨gd, 0, none⟩) P.length m0) := ow_cell hown1 (List.mem_append_right _ (List.Mem.head _)) (j := 0) (by omega)
                have tg := (rw_cell hown1 hvs.out hu).1
                have tq := (rw_at hown1 (by rw [hl1.out]; exact hlt) hu hrl.out hlty)
                obtain ⟨px, hpx⟩ : ∃ q, q = nth P x := ⟨_, rfl⟩
                obtain ⟨py, hpy⟩ : ∃ q, q = nth P y := ⟨_, rfl⟩
                rw [← hpx] at hcx hbx
                rw [← hpy] at hcy hby
                clear hpx hpy
                have hnew := rw_put hown1 (by rw [hvs.out, hl1.out]) (by rw [hl1.out]; exact hlt) hu hrl.out y (px + py)
                have hMn := hid (hM1.out.set hlt y (x := px + py) (by unfold I64; omega))
                obtain ⟨tq, tqf⟩ := tq
                go_upto_region 16 with fail
                have ed : Ext wq wq.drew := inferInstance
                have tb' := ed.cell tb
                have tg' := ed.cell tg
                have cx' := ed.cell hcx
                have cy' := ed.cell hcy
                have tq' := ed.cell tq
                have tqf' := ed.frozen tq tqf
                have hbd : Below (w.heap.size + 1) W wq.drew := hb1.drew
                have hnew' : Own (wq.drew.setCell ⟨gr, y, none⟩ (.int .i64 (px + py))) (w.heap.size + 1) (rowsOf 24 3 (.slice (some ⟨gd, 0, none⟩) P.length m0) vs (M1.set x ((row M1 x).set y (px + py))) ++ [boxRow 29 1 b [.slice (some ⟨gd, 0, none⟩) P.length m0]]) := hnew
                clear tb tg hcx hcy hnew ed hb1 tq tqf hown hown1
                refine wp_region_held_drew (S := fun w' => w'.cell? ⟨b, 0, none⟩ = some (.slice (some ⟨gd, 0, none⟩) P.length m0) ∧ w'.cell? ⟨gd, x, none⟩ = some (.slice (some ⟨gr, 0, none⟩) P.length mr) ∧ w'.cell? ⟨bp, op + x, none⟩ = some (.int .i64 px) ∧ w'.cell? ⟨bp, op + y, none⟩ = some (.int .i64 py)) (by kernel_rfl) ⟨tb', tg', cx', cy'⟩ (fun hHeld0 => ?_)
                generalize wq.drew = wd at *
                have hcu := hu
                replace hu := hid hu
                have hbW : Below (w.heap.size + 1) W (wd.setCell ⟨gr, y, none⟩ (.int .i64 (px + py))) := hbd.setCell hBg _
                have hSf : (wd.setCell ⟨gr, y, none⟩ (.int .i64 (px + py))).cell? ⟨b, 0, none⟩ = some (.slice (some ⟨gd, 0, none⟩) P.length m0) ∧ (wd.setCell ⟨gr, y, none⟩ (.int .i64 (px + py))).cell? ⟨gd, x, none⟩ = some (.slice (some ⟨gr, 0, none⟩) P.length mr) ∧ (wd.setCell ⟨gr, y, none⟩ (.int .i64 (px + py))).cell? ⟨bp, op + x, none⟩ = some (.int .i64 px) ∧ (wd.setCell ⟨gr, y, none⟩ (.int .i64 (px + py))).cell? ⟨bp, op + y, none⟩ = some (.int .i64 py) := by
                  have hne : bp ≠ gr := by
                    obtain ⟨b1, o1, h4, h5⟩ := hPc.out x hlt
                    cases h4
                    have h1 := World.block_lt_of_cell? w0 _ h5
                    have h2 := (‹Ext w0 w›).size
                    intro e
                    subst e
                    simp at h1
                    omega
                  refine ⟨ow_cell hnew' (List.mem_append_right _ (List.Mem.head _)) (j := 0) (by omega), (rw_cell hnew' hvs.out hcu).1, ?_, ?_⟩
                  · rw [World.cell?_setCell_far _ _ _ _ hne.symm]; exact cx'
                  · rw [World.cell?_setCell_far _ _ _ _ hne.symm]; exact cy'
                replace hSf := hid hSf
                clear hcu
                refine wpAnyH_take (i := 0) (v := .pointer (some ⟨b, 0, none⟩)) rfl (by kernel_rfl) (by kernel_rfl) (by kernel_rfl) (fun _ _ _ h => h) (Or.inl ⟨by rfl, by intro wx hx; go_simp⟩) (by assumption) ?_
                try simp only [List.getElem_toArray, List.getElem_cons_zero, Act.put, List.setIfInBounds_toArray, List.set_cons_zero, List.set_cons_succ]
                refine wpAnyH_take (i := 1) (v := .slice (some ⟨gd, 0, none⟩) P.length m0) rfl (by kernel_rfl) (by kernel_rfl) (by kernel_rfl) (fun _ _ _ h => h) (Or.inl ⟨by rfl, by intro wx hx; obtain ⟨_, _, _, _⟩ := hx; go_simp⟩) (by assumption) ?_
                try simp only [List.getElem_toArray, List.getElem_cons_succ, List.getElem_cons_zero, Act.put, List.setIfInBounds_toArray, List.set_cons_zero, List.set_cons_succ]
                refine wpAnyH_take (i := 2) (v := .int .i64 x) rfl (by kernel_rfl) (by kernel_rfl) (by kernel_rfl) (fun _ _ _ h => h) (Or.inl ⟨by rfl, by intro wx hx; go_simp⟩) (by assumption) ?_
                try simp only [List.getElem_toArray, List.getElem_cons_succ, List.getElem_cons_zero, Act.put, List.setIfInBounds_toArray, List.set_cons_zero, List.set_cons_succ]
                refine wpAnyH_take (i := 3) (v := .pointer (some ⟨gd, x, none⟩)) rfl (by kernel_rfl) (by kernel_rfl) (by kernel_rfl) (fun _ _ _ h => h) (Or.inl ⟨by rfl, by intro wx hx; go_simp⟩) (by assumption) ?_
                try simp only [List.getElem_toArray, List.getElem_cons_succ, List.getElem_cons_zero, Act.put, List.setIfInBounds_toArray, List.set_cons_zero, List.set_cons_succ]
                refine wpAnyH_take (i := 4) (v := .slice (some ⟨gr, 0, none⟩) P.length mr) rfl (by kernel_rfl) (by kernel_rfl) (by kernel_rfl) (fun _ _ _ h => h) (Or.inl ⟨by rfl, by intro wx hx; obtain ⟨_, _, _, _⟩ := hx; go_simp⟩) (by assumption) ?_
                try simp only [List.getElem_toArray, List.getElem_cons_succ, List.getElem_cons_zero, Act.put, List.setIfInBounds_toArray, List.set_cons_zero, List.set_cons_succ]
                refine wpAnyH_take (i := 5) (v := .int .i64 y) rfl (by kernel_rfl) (by kernel_rfl) (by kernel_rfl) (fun _ _ _ h => h) (Or.inl ⟨by rfl, by intro wx hx; go_simp⟩) (by assumption) ?_
                try simp only [List.getElem_toArray, List.getElem_cons_succ, List.getElem_cons_zero, Act.put, List.setIfInBounds_toArray, List.set_cons_zero, List.set_cons_succ]
                refine wpAnyH_take (i := 6) (v := .slice (some ⟨bp, op, none⟩) P.length cP) rfl (by kernel_rfl) (by kernel_rfl) (by kernel_rfl) (fun _ _ _ h => h) (Or.inl ⟨by rfl, by intro wx hx; go_simp⟩) (by assumption) ?_
                try simp only [List.getElem_toArray, List.getElem_cons_succ, List.getElem_cons_zero, Act.put, List.setIfInBounds_toArray, List.set_cons_zero, List.set_cons_succ]
                refine wpAnyH_take (i := 7) (v := .int .i64 x) rfl (by kernel_rfl) (by kernel_rfl) (by kernel_rfl) (fun _ _ _ h => h) (Or.inl ⟨by rfl, by intro wx hx; go_simp⟩) (by assumption) ?_
                try simp only [List.getElem_toArray, List.getElem_cons_succ, List.getElem_cons_zero, Act.put, List.setIfInBounds_toArray, List.set_cons_zero, List.set_cons_succ]
                refine wpAnyH_take (i := 8) (v := .pointer (some ⟨bp, op + x, none⟩)) rfl (by kernel_rfl) (by kernel_rfl) (by kernel_rfl) (fun _ _ _ h => h) (Or.inl ⟨by rfl, by intro wx hx; go_simp⟩) (by assumption) ?_
                try simp only [List.getElem_toArray, List.getElem_cons_succ, List.getElem_cons_zero, Act.put, List.setIfInBounds_toArray, List.set_cons_zero, List.set_cons_succ]
                refine wpAnyH_take (i := 9) (v := .int .i64 px) rfl (by kernel_rfl) (by kernel_rfl) (by kernel_rfl) (fun _ _ _ h => h) (Or.inl ⟨by rfl, by intro wx hx; obtain ⟨_, _, _, _⟩ := hx; go_simp⟩) (by assumption) ?_
                try simp only [List.getElem_toArray, List.getElem_cons_succ, List.getElem_cons_zero, Act.put, List.setIfInBounds_toArray, List.set_cons_zero, List.set_cons_succ]
                refine wpAnyH_take (i := 10) (v := .slice (some ⟨bp, op, none⟩) P.length cP) rfl (by kernel_rfl) (by kernel_rfl) (by kernel_rfl) (fun _ _ _ h => h) (Or.inl ⟨by rfl, by intro wx hx; go_simp⟩) (by assumption) ?_
                try simp only [List.getElem_toArray, List.getElem_cons_succ, List.getElem_cons_zero, Act.put, List.setIfInBounds_toArray, List.set_cons_zero, List.set_cons_succ]
                refine wpAnyH_take (i := 11) (v := .int .i64 y) rfl (by kernel_rfl) (by kernel_rfl) (by kernel_rfl) (fun _ _ _ h => h) (Or.inl ⟨by rfl, by intro wx hx; go_simp⟩) (by assumption) ?_
                try simp only [List.getElem_toArray, List.getElem_cons_succ, List.getElem_cons_zero, Act.put, List.setIfInBounds_toArray, List.set_cons_zero, List.set_cons_succ]
                refine wpAnyH_take (i := 12) (v := .pointer (some ⟨bp, op + y, none⟩)) rfl (by kernel_rfl) (by kernel_rfl) (by kernel_rfl) (fun _ _ _ h => h) (Or.inl ⟨by rfl, by intro wx hx; go_simp⟩) (by assumption) ?_
                try simp only [List.getElem_toArray, List.getElem_cons_succ, List.getElem_cons_zero, Act.put, List.setIfInBounds_toArray, List.set_cons_zero, List.set_cons_succ]
                refine wpAnyH_take (i := 13) (v := .int .i64 py) rfl (by kernel_rfl) (by kernel_rfl) (by kernel_rfl) (fun _ _ _ h => h) (Or.inl ⟨by rfl, by intro wx hx; obtain ⟨_, _, _, _⟩ := hx; go_simp⟩) (by assumption) ?_
                try simp only [List.getElem_toArray, List.getElem_cons_succ, List.getElem_cons_zero, Act.put, List.setIfInBounds_toArray, List.set_cons_zero, List.set_cons_succ]
                refine wpAnyH_take (i := 14) (v := .int .i64 (px + py)) rfl (by kernel_rfl) (by kernel_rfl) (by kernel_rfl) (fun _ _ _ h => h) (Or.inl ⟨by rfl, by intro wx hx; go_simp; exact IntWalk.i64_in _ (by omega)⟩) (by assumption) ?_
                try simp only [List.getElem_toArray, List.getElem_cons_succ, List.getElem_cons_zero, Act.put, List.setIfInBounds_toArray, List.set_cons_zero, List.set_cons_succ]
                refine wpAnyH_take (i := 15) (v := .pointer (some ⟨gr, y, none⟩)) rfl (by kernel_rfl) (by kernel_rfl) (by kernel_rfl) (fun _ _ _ h => h) (Or.inl ⟨by rfl, by intro wx hx; go_simp⟩) (by assumption) ?_
                try simp only [List.getElem_toArray, List.getElem_cons_succ, List.getElem_cons_zero, Act.put, List.setIfInBounds_toArray, List.set_cons_zero, List.set_cons_succ]
                refine wpAnyH_ready (rs := [16]) (by kernel_rfl) (by simp) ?_
                refine AllReadyH.cons rfl (fun K hK => ?_) AllReadyH.nil
                go_simp
                refine hK.out _ _ hSf.out (fun _ => ?_)
                clear hK K
                try simp only [List.getElem_toArray, List.getElem_cons_succ, List.getElem_cons_zero, Act.put, List.setIfInBounds_toArray, List.set_cons_zero, List.set_cons_succ]
                refine wpAnyH_done (by kernel_rfl) ?_ _
                go_wp2_with fail
                go_roundw
                case rel => exact ⟨y + 1, by omega, by go_num, hbW, _, hMn, hnew'⟩
                case measure => simp [intOf]; omega
            · have hyn : y = P.length := by omega
              replace hyn := hid hyn
              go_wp2
              go_roundw
              case rel => exact ⟨x + 1, by omega, by go_num, hb1, M1, hM1, hown1⟩
              case measure => simp [intOf]; omega
        · have hxn : x = P.length := by omega
          replace hxn := hid hxn
          have tb : wo.cell? ⟨b, 0, none⟩ = some (.slice d0 P.length m0) := ow_cell hown (List.mem_append_right _ (List.Mem.head _)) (j := 0) (by omega)
          have xr : wo.cell? ⟨w.heap.size, 0, none⟩ = some (.slice none 0 0) := (hb0.cell (p := ⟨w.heap.size, 0, none⟩) (Nat.lt_succ_self _)).trans x0
          have xrf : wo.frozen? ⟨w.heap.size, 0, none⟩ = false := (hb0.frozen (p := ⟨w.heap.size, 0, none⟩) (Nat.lt_succ_self _)).trans xf
          have hset : (wo.setCell ⟨w.heap.size, 0, none⟩ (.slice d0 P.length m0)).cell? ⟨w.heap.size, 0, none⟩ = some (.slice d0 P.length m0) := by go_simp
          have hown3 := (hown.left.setBelow (p := ⟨w.heap.size, 0, none⟩) (Nat.lt_succ_self _) (.slice d0 P.length m0)).mono (Nat.le_succ _)
          have eF : Ext w (wo.setCell ⟨w.heap.size, 0, none⟩ (.slice d0 P.length m0)) := ⟨eW.below.trans ((hb0.mono (Nat.le_succ _)).setCell (Nat.le_refl _) _)⟩
          go_wp2
          refine bodyPost_ret (v := .tuple #[.agg #[.slice d0 P.length m0], .bool true]) (by simp [results, Try.results57, go_sem, hset]) rfl ?_
          exact ⟨_, _, vs, M, rfl, hvs.out, hM.out, hown3, eF⟩
end Go.Proofs.Ytnlbjbnjjkilhaa
