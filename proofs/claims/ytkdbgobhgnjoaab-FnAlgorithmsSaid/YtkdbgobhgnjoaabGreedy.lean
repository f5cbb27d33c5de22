/- The greedy state, the reference's and the program's. -/
import Derived.Test.YtkdbgobhgnjoaabArg
import Derived.Test.YtkdbgobhgnjoaabWorkW
import Derived.Deep.RegionHeld3
namespace Go.Proofs.Ytkdbgobhgnjoaab
open Go.RowKit

set_option maxHeartbeats 1600000 in
set_option maxRecDepth 100000 in
theorem l8Greedy_any {v1 v2 : Value} {M S : List (List Int)} {s r : Nat} {w0 w : World} [Ext w0 w] (hM : IsRows w0 v1 M) (hS : IsRows w0 v2 S) (hp : probB M S = true) (hs : s < M.length) (hr : r < S.length) :
    Calls Try.prog 106 #[.agg #[v1, v2], .int .i64 s, .int .i64 r] w fun e w' => e = .returned (.int .i64 (greedyAt M S s r)) ∧ Ext w w' := by
  obtain ⟨a1, c1, rfl, l1⟩ := hM.form
  obtain ⟨a2, c2, rfl, l2⟩ := hS.form
  have hrow := hid (probB_row hp hr).1
  have hsq := hid (tableB_square (probB_table hp))
  have hin := hid (arg_in hp (c := stepC M S r s) hr)
  replace hp := hid hp
  go_enter Try.func106, Try.ntmps106
  go_upto_region 1 with fail
  generalize hW : (w.alloc (.cells #[.slice a1 M.length c1, .slice a2 S.length c2] 26)) = W
  have eW : Ext w W := hW ▸ inferInstance
  have x0 : W.cell? ⟨w.heap.size, 0, none⟩ = some (.slice a1 M.length c1) := by subst hW; go_simp
  have x1 : W.cell? ⟨w.heap.size, 1, none⟩ = some (.slice a2 S.length c2) := by subst hW; go_simp
  clear hW
  go_wp2
  go_loopw [7, 8, 9] (fun p q i wr => ∃ t : Nat, t ≤ M.length ∧ i = .int .i64 t ∧ p = .int .i64 (argP ((servedTo (row S r) t).foldl (argStep (stepC M S r s)) (-1))) ∧ q = .int .i64 (argV (stepC M S r s) ((servedTo (row S r) t).foldl (argStep (stepC M S r s)) (-1))) ∧ Drew W wr) (fun _ _ i _ => M.length - (intOf i).toNat)
  case atStart => exact ⟨0, by omega, rfl, rfl, rfl, Drew.refl _⟩
  case round =>
    obtain ⟨t, ht, rfl, rfl, rfl, hd⟩ := hrel
    have y0 := hd.ext.cell x0
    have y1 := hd.ext.cell x1
    have e1 : Ext w wr := Ext.trans eW hd.ext
    have e0 : Ext w0 wr := Ext.trans ‹Ext w0 w› e1
    have hfold := hid (foldServed (argStep (stepC M S r s)) (-1) (row S r) t)
    by_cases hlt : t < M.length
    · obtain ⟨b7, o7, d7, m7, rfl, hc7, hr7, _⟩ := hS.at (w' := wr) hr
      rw [hrow.out] at hr7 hc7
      obtain ⟨b8, o8, rfl, hc8⟩ := hr7.at (w' := wr) (k := t) (by rw [hrow.out]; exact hlt)
      have hc8' : wr.cell? ⟨b8, o8 + t, none⟩ = some (.int .i64 (cell S r t)) := hc8
      clear hc8
      have hg0 := hid (arg_mem (c := stepC M S r s) (servedTo (row S r) t) (-1))
      generalize (servedTo (row S r) t).foldl (argStep (stepC M S r s)) (-1) = g at *
      by_cases hge : 0 ≤ cell S r t
      · have hge' : decide (cell S r t < 0) = false := by simpa using hge
        have hf2 := hid (hfold.out.trans (if_pos hge))
        clear hfold
        have hgc := hid (show 0 ≤ g → 0 ≤ stepC M S r s g by
          intro h0
          rcases hg0.out with h | h
          · omega
          · obtain ⟨i, hi, h1, rfl⟩ := servedTo_mem.1 h
            have q := (probB_move hp.out hs (show i < M.length by omega)).1
            have h1' : 0 ≤ cell S r i := h1
            simp [stepC]
            omega)
        have hst := hid (argP_step (c := stepC M S r s) (g := g) (t := (t : Int)) (by omega) hgc.out)
        obtain ⟨b5, o5, d5, m5, rfl, hc5, hr5, _⟩ := hM.at (w' := wr) hs
        have hl5 := square_row hsq.out hs
        rw [hl5] at hr5 hc5
        replace hl5 := hid hl5
        obtain ⟨b6, o6, rfl, hc6⟩ := hr5.at (w' := wr) (k := t) (by rw [hl5.out]; exact hlt)
        have hc6' : wr.cell? ⟨b6, o6 + t, none⟩ = some (.int .i64 (cell M s t)) := hc6
        clear hc6
        have q2 := probB_serve hp.out hr hlt
        have q3 := probB_move hp.out hs hlt
        have hcv := hid (show stepC M S r s (t : Int) = cell M s t + cell S r t by simp [stepC])
        rw [hcv.out] at hst
        generalize argV (stepC M S r s) g = vg at *
        generalize argP g = pg at *
        by_cases hv0 : vg < 0
        · have hv0' : decide (vg < 0) = true := by simpa using hv0
          have h2 := hid (hst.out.1 (.inl hv0))
          clear hst
          go_wp2_with (go_quiet (fail))
          go_roundw
          case rel => exact ⟨t + 1, by omega, by go_num, by rw [hf2.out, h2.out.1], by rw [hf2.out, h2.out.2], hd.step _⟩
          case measure => simp [intOf]; omega
        · have hv0' : decide (vg < 0) = false := by simpa using hv0
          by_cases hlv : cell M s t + cell S r t < vg
          · have hlv' : decide (cell M s t + cell S r t < vg) = true := by simpa using hlv
            have h2 := hid (hst.out.1 (.inr hlv))
            clear hst
            go_wp2_with (go_quiet (fail))
            go_roundw
            case rel => exact ⟨t + 1, by omega, by go_num, by rw [hf2.out, h2.out.1], by rw [hf2.out, h2.out.2], hd.step _⟩
            case measure => simp [intOf]; omega
          · have hlv' : decide (cell M s t + cell S r t < vg) = false := by simpa using hlv
            have h2 := hid (hst.out.2 (by omega))
            clear hst
            go_wp2_with (go_quiet (fail))
            go_roundw
            case rel => exact ⟨t + 1, by omega, by go_num, by rw [hf2.out, h2.out.1], by rw [hf2.out, h2.out.2], hd.step _⟩
            case measure => simp [intOf]; omega
      · have hge' : decide (cell S r t < 0) = true := by simp; omega
        have hf2 := hid (hfold.out.trans (if_neg hge))
        clear hfold
        go_wp2
        go_roundw
        case rel => exact ⟨t + 1, by omega, by go_num, by rw [hf2.out], by rw [hf2.out], hd⟩
        case measure => simp [intOf]; omega
    · have htl : t = (row S r).length := by rw [hrow.out]; omega
      have hres := hid (show argP ((servedTo (row S r) t).foldl (argStep (stepC M S r s)) (-1)) = greedyAt M S s r by
        rw [htl, greedyAt, Int.toNat_natCast]
        have := hin.out.1
        unfold argP
        exact if_neg (by unfold servedL at this; omega))
      clear htl hfold
      go_wp2
      go_ret
      exact ⟨ret_int hres.out, e1⟩

set_option maxHeartbeats 1600000 in
set_option maxRecDepth 100000 in
theorem greedy_any {v1 v2 : Value} {M S : List (List Int)} {s r : Nat} {w0 w : World} [Ext w0 w] (hM : IsRows w0 v1 M) (hS : IsRows w0 v2 S) (hp : probB M S = true) (hs : s < M.length) (hr : r < S.length) :
    Calls Try.prog 74 #[.agg #[v1, v2], .int .i64 s, .int .i64 r] w fun e w' => e = .returned (.int .i64 (greedyAt M S s r)) ∧ Ext w w' := by
  have hM' := hM
  have hS' := hS
  obtain ⟨a1, c1, rfl, l1⟩ := hM.form
  obtain ⟨a2, c2, rfl, l2⟩ := hS.form
  have hrow := hid (probB_row hp hr).1
  have hn := hid (probB_len hp)
  have hrI := hid (show (0 : Int) ≤ (r : Int) ∧ (r : Int) < S.length by omega)
  have hsI := hid (show (0 : Int) ≤ (s : Int) ∧ (s : Int) < M.length by omega)
  have hLi : Hid (∀ x ∈ servedL (row S r), I64 x) := servedTo_i64 (cs := row S r) (k := (row S r).length) (by have := hrow.out; have := hn.out; omega)
  have hLm := hid (fun t (h : t ∈ servedL (row S r)) => servedL_lt h)
  have hL4 : (servedL (row S r)).length ≤ 4 := by
    have := servedTo_length (row S r) (row S r).length
    have h1 := hrow.out
    have h2 := hn.out
    unfold servedL
    omega
  have hfin := hid (show greedyAt M S s r = (servedL (row S r)).foldl (argStep (stepC M S r s)) (-1) by rw [greedyAt, Int.toNat_natCast])
  replace hp := hid hp
  go_enter Try.func74, Try.ntmps74
  go_wp2_with fail
  refine (served_any (w0 := w0) hM' hS' hrI.out.1 hrI.out.2).mono ?_
  rw [Int.toNat_natCast]
  rintro e W ⟨sd, sm, rfl, own, hb⟩
  have x0 : W.cell? ⟨w.heap.size, 0, none⟩ = some (.slice a1 M.length c1) := hb.cell (by go_simp)
  have x1 : W.cell? ⟨w.heap.size, 1, none⟩ = some (.slice a2 S.length c2) := hb.cell (by go_simp)
  have eW : Ext w W := Ext.trans inferInstance hb
  have hread := own.reads (by unfold Short; omega) hLi.out
  clear own hb
  generalize hL : servedL (row S r) = L at *
  replace hL := hid hL
  go_wp2
  go_loopw [7, 14] (fun q i wr => ∃ j : Nat, j ≤ L.length ∧ i = .int .i64 j ∧ q = .int .i64 ((L.take j).foldl (argStep (stepC M S r s)) (-1)) ∧ Ext W wr) (fun _ i _ => L.length - (intOf i).toNat)
  case atStart => exact ⟨0, by omega, rfl, rfl, Ext.refl _⟩
  case round =>
    obtain ⟨j, hj, rfl, rfl, hd⟩ := hrel
    have y0 := hd.cell x0
    have y1 := hd.cell x1
    have e1 : Ext w wr := Ext.trans eW hd
    have e0 : Ext w0 wr := Ext.trans ‹Ext w0 w› e1
    by_cases hlt : j < L.length
    · obtain ⟨b3, o3, rfl, hc3⟩ := hread.at (w' := wr) hlt
      have hmem := hLm.out _ (nth_mem hlt)
      rw [hrow.out] at hmem
      have hsucc := hid (foldTake (argStep (stepC M S r s)) (-1) hlt)
      have hg0 := arg_mem (c := stepC M S r s) (L.take j) (-1)
      generalize (L.take j).foldl (argStep (stepC M S r s)) (-1) = g at *
      have htI := hid (show 0 ≤ nth L j ∧ nth L j < M.length by omega)
      generalize nth L j = t at *
      by_cases hgn : g < 0
      · have hgn' : decide (g < 0) = true := by simpa using hgn
        have h2 := hid (hsucc.out.trans (if_pos (.inl hgn)))
        clear hsucc hg0 hmem
        go_wp2_with (go_quiet (fail))
        go_roundw
        case rel => exact ⟨j + 1, by omega, by go_num, by rw [h2.out], Ext.trans hd inferInstance⟩
        case measure => simp [intOf]; omega
      · have hgn' : decide (g < 0) = false := by simpa using hgn
        have hgm : g ∈ L := by
          rcases hg0 with h | h
          · omega
          · exact List.mem_of_mem_take h
        have hgl := hLm.out _ hgm
        rw [hrow.out] at hgl
        have hgI := hid (show 0 ≤ g ∧ g < M.length by omega)
        clear hg0 hmem hgm hgl
        have hif := hid (show argStep (stepC M S r s) g t = if stepC M S r s t < stepC M S r s g then t else g by
          unfold argStep
          by_cases h : stepC M S r s t < stepC M S r s g
          · rw [if_pos h, if_pos (.inr h)]
          · rw [if_neg h, if_neg (by omega)])
        by_cases hct : stepC M S r s t < stepC M S r s g
        · have h2 := hid (hsucc.out.trans (hif.out.trans (if_pos hct)))
          have hct' : decide (stepC M S r s t < stepC M S r s g) = true := by simpa using hct
          clear hsucc hif
          go_upto_region 5 with fail
          have ed : Ext wr wr.drew := inferInstance
          refine wp_region_held_drew (S := fun w' => Ext wr w' ∧ w'.cell? ⟨w.heap.size, 0, none⟩ = some (.slice a1 M.length c1) ∧ w'.cell? ⟨w.heap.size, 1, none⟩ = some (.slice a2 S.length c2)) (by kernel_rfl) ⟨ed, ed.cell y0, ed.cell y1⟩ (fun hHeld => ?_)
          refine wpAnyH_take (i := 0) (v := .int .i64 g) rfl (by kernel_rfl) (by kernel_rfl) (by kernel_rfl) (fun _ _ _ h => h) (Or.inl ⟨by rfl, by intro wx hx; go_simp⟩) (by assumption) ?_
          try simp only [List.getElem_toArray, List.getElem_cons_zero, Act.put, List.setIfInBounds_toArray, List.set_cons_zero, List.set_cons_succ]
          refine wpAnyH_take (i := 1) (v := .bool false) rfl (by kernel_rfl) (by kernel_rfl) (by kernel_rfl) (fun _ _ _ h => h) (Or.inl ⟨by rfl, by intro wx hx; go_simp⟩) (by assumption) ?_
          try simp only [List.getElem_toArray, List.getElem_cons_succ, List.getElem_cons_zero, Act.put, List.setIfInBounds_toArray, List.set_cons_zero, List.set_cons_succ]
          refine wpAnyH_take (i := 2) (v := .bool false) rfl (by kernel_rfl) (by kernel_rfl) (by kernel_rfl) (fun _ _ _ h => h) (Or.inl ⟨by rfl, by intro wx hx; go_simp⟩) (by assumption) ?_
          try simp only [List.getElem_toArray, List.getElem_cons_succ, List.getElem_cons_zero, Act.put, List.setIfInBounds_toArray, List.set_cons_zero, List.set_cons_succ]
          refine wpAnyH_take (i := 3) (v := .agg #[.slice a1 M.length c1, .slice a2 S.length c2]) rfl (by kernel_rfl) (by kernel_rfl) (by kernel_rfl) (fun _ _ _ h => h) (Or.inl ⟨by rfl, by intro wx hx; obtain ⟨_, _, _⟩ := hx; go_simp⟩) (by assumption) ?_
          try simp only [List.getElem_toArray, List.getElem_cons_succ, List.getElem_cons_zero, Act.put, List.setIfInBounds_toArray, List.set_cons_zero, List.set_cons_succ]
          refine wpAnyH_take (i := 4) (v := .int .i64 s) rfl (by kernel_rfl) (by kernel_rfl) (by kernel_rfl) (fun _ _ _ h => h) (Or.inl ⟨by rfl, by intro wx hx; go_simp⟩) (by assumption) ?_
          try simp only [List.getElem_toArray, List.getElem_cons_succ, List.getElem_cons_zero, Act.put, List.setIfInBounds_toArray, List.set_cons_zero, List.set_cons_succ]
          refine wpAnyH_take (i := 5) (v := .int .i64 t) rfl (by kernel_rfl) (by kernel_rfl) (by kernel_rfl) (fun _ _ _ h => h) (Or.inl ⟨by rfl, by intro wx hx; go_simp⟩) (by assumption) ?_
          try simp only [List.getElem_toArray, List.getElem_cons_succ, List.getElem_cons_zero, Act.put, List.setIfInBounds_toArray, List.set_cons_zero, List.set_cons_succ]
          refine wpAnyH_take (i := 6) (v := .int .i64 r) rfl (by kernel_rfl) (by kernel_rfl) (by kernel_rfl) (fun _ _ _ h => h) (Or.inl ⟨by rfl, by intro wx hx; go_simp⟩) (by assumption) ?_
          try simp only [List.getElem_toArray, List.getElem_cons_succ, List.getElem_cons_zero, Act.put, List.setIfInBounds_toArray, List.set_cons_zero, List.set_cons_succ]
          refine wpAnyH_take (i := 8) (v := .agg #[.slice a1 M.length c1, .slice a2 S.length c2]) rfl (by kernel_rfl) (by kernel_rfl) (by kernel_rfl) (fun _ _ _ h => h) (Or.inl ⟨by rfl, by intro wx hx; obtain ⟨_, _, _⟩ := hx; go_simp⟩) (by assumption) ?_
          try simp only [List.getElem_toArray, List.getElem_cons_succ, List.getElem_cons_zero, Act.put, List.setIfInBounds_toArray, List.set_cons_zero, List.set_cons_succ]
          refine wpAnyH_take (i := 9) (v := .int .i64 s) rfl (by kernel_rfl) (by kernel_rfl) (by kernel_rfl) (fun _ _ _ h => h) (Or.inl ⟨by rfl, by intro wx hx; go_simp⟩) (by assumption) ?_
          try simp only [List.getElem_toArray, List.getElem_cons_succ, List.getElem_cons_zero, Act.put, List.setIfInBounds_toArray, List.set_cons_zero, List.set_cons_succ]
          refine wpAnyH_take (i := 10) (v := .int .i64 g) rfl (by kernel_rfl) (by kernel_rfl) (by kernel_rfl) (fun _ _ _ h => h) (Or.inl ⟨by rfl, by intro wx hx; go_simp⟩) (by assumption) ?_
          try simp only [List.getElem_toArray, List.getElem_cons_succ, List.getElem_cons_zero, Act.put, List.setIfInBounds_toArray, List.set_cons_zero, List.set_cons_succ]
          refine wpAnyH_take (i := 11) (v := .int .i64 r) rfl (by kernel_rfl) (by kernel_rfl) (by kernel_rfl) (fun _ _ _ h => h) (Or.inl ⟨by rfl, by intro wx hx; go_simp⟩) (by assumption) ?_
          try simp only [List.getElem_toArray, List.getElem_cons_succ, List.getElem_cons_zero, Act.put, List.setIfInBounds_toArray, List.set_cons_zero, List.set_cons_succ]
          refine wpAnyH_ready (rs := [7]) (by kernel_rfl) (by simp) ?_
          refine AllReadyH.cons rfl (fun K hK => ?_) AllReadyH.nil
          go_simp
          go_at_call 66
          refine (cost_any (s := t) (w0 := wr) (hM'.ext (w' := wr)) (hS'.ext (w' := wr)) hp.out hrI.out.1 hrI.out.2 hsI.out.1 hsI.out.2 htI.out.1 htI.out.2).mono ?_
          rintro e w2 ⟨rfl, hb2⟩
          go_wp2_with fail
          have eb2 : Ext wr w2 := Ext.trans ed hb2
          refine hK.out _ _ ⟨eb2, eb2.cell y0, eb2.cell y1⟩ (fun hHeld2 => ?_)
          clear hK K hHeld
          try simp only [List.getElem_toArray, List.getElem_cons_succ, List.getElem_cons_zero, Act.put, List.setIfInBounds_toArray, List.set_cons_zero, List.set_cons_succ]
          refine wpAnyH_ready (rs := [12]) (by kernel_rfl) (by simp) ?_
          refine AllReadyH.cons rfl (fun K hK => ?_) AllReadyH.nil
          go_simp
          go_at_call 66
          refine (cost_any (s := g) (w0 := wr) (hM'.ext (w' := wr)) (hS'.ext (w' := wr)) hp.out hrI.out.1 hrI.out.2 hsI.out.1 hsI.out.2 hgI.out.1 hgI.out.2).mono ?_
          rintro e w3 ⟨rfl, hb3⟩
          go_wp2_with fail
          have eb3 : Ext wr w3 := Ext.trans eb2 hb3
          refine hK.out _ _ ⟨eb3, eb3.cell y0, eb3.cell y1⟩ (fun hHeld3 => ?_)
          clear hK K hHeld2
          try simp only [List.getElem_toArray, List.getElem_cons_succ, List.getElem_cons_zero, Act.put, List.setIfInBounds_toArray, List.set_cons_zero, List.set_cons_succ]
          refine wpAnyH_take (i := 13) (v := .bool true) rfl (by kernel_rfl) (by kernel_rfl) (by kernel_rfl) (fun _ _ _ h => h) (Or.inl ⟨by rfl, by intro wx hx; go_simp⟩) (by assumption) ?_
          try simp only [List.getElem_toArray, List.getElem_cons_succ, List.getElem_cons_zero, Act.put, List.setIfInBounds_toArray, List.set_cons_zero, List.set_cons_succ]
          refine wpAnyH_take (i := 14) (v := .bool true) rfl (by kernel_rfl) (by kernel_rfl) (by kernel_rfl) (fun _ _ _ h => h) (Or.inl ⟨by rfl, by intro wx hx; go_simp⟩) (by assumption) ?_
          try simp only [List.getElem_toArray, List.getElem_cons_succ, List.getElem_cons_zero, Act.put, List.setIfInBounds_toArray, List.set_cons_zero, List.set_cons_succ]
          refine wpAnyH_done (by kernel_rfl) ?_ _
          go_wp2_with fail
          go_roundw
          case rel => exact ⟨j + 1, by omega, by go_num, by rw [h2.out], Ext.trans hd eb3⟩
          case measure => simp [intOf]; omega
        · have h2 := hid (hsucc.out.trans (hif.out.trans (if_neg hct)))
          have hct' : decide (stepC M S r s t < stepC M S r s g) = false := by simpa using hct
          clear hsucc hif
          go_upto_region 5 with fail
          have ed : Ext wr wr.drew := inferInstance
          refine wp_region_held_drew (S := fun w' => Ext wr w' ∧ w'.cell? ⟨w.heap.size, 0, none⟩ = some (.slice a1 M.length c1) ∧ w'.cell? ⟨w.heap.size, 1, none⟩ = some (.slice a2 S.length c2)) (by kernel_rfl) ⟨ed, ed.cell y0, ed.cell y1⟩ (fun hHeld => ?_)
          refine wpAnyH_take (i := 0) (v := .int .i64 g) rfl (by kernel_rfl) (by kernel_rfl) (by kernel_rfl) (fun _ _ _ h => h) (Or.inl ⟨by rfl, by intro wx hx; go_simp⟩) (by assumption) ?_
          try simp only [List.getElem_toArray, List.getElem_cons_zero, Act.put, List.setIfInBounds_toArray, List.set_cons_zero, List.set_cons_succ]
          refine wpAnyH_take (i := 1) (v := .bool false) rfl (by kernel_rfl) (by kernel_rfl) (by kernel_rfl) (fun _ _ _ h => h) (Or.inl ⟨by rfl, by intro wx hx; go_simp⟩) (by assumption) ?_
          try simp only [List.getElem_toArray, List.getElem_cons_succ, List.getElem_cons_zero, Act.put, List.setIfInBounds_toArray, List.set_cons_zero, List.set_cons_succ]
          refine wpAnyH_take (i := 2) (v := .bool false) rfl (by kernel_rfl) (by kernel_rfl) (by kernel_rfl) (fun _ _ _ h => h) (Or.inl ⟨by rfl, by intro wx hx; go_simp⟩) (by assumption) ?_
          try simp only [List.getElem_toArray, List.getElem_cons_succ, List.getElem_cons_zero, Act.put, List.setIfInBounds_toArray, List.set_cons_zero, List.set_cons_succ]
          refine wpAnyH_take (i := 3) (v := .agg #[.slice a1 M.length c1, .slice a2 S.length c2]) rfl (by kernel_rfl) (by kernel_rfl) (by kernel_rfl) (fun _ _ _ h => h) (Or.inl ⟨by rfl, by intro wx hx; obtain ⟨_, _, _⟩ := hx; go_simp⟩) (by assumption) ?_
          try simp only [List.getElem_toArray, List.getElem_cons_succ, List.getElem_cons_zero, Act.put, List.setIfInBounds_toArray, List.set_cons_zero, List.set_cons_succ]
          refine wpAnyH_take (i := 4) (v := .int .i64 s) rfl (by kernel_rfl) (by kernel_rfl) (by kernel_rfl) (fun _ _ _ h => h) (Or.inl ⟨by rfl, by intro wx hx; go_simp⟩) (by assumption) ?_
          try simp only [List.getElem_toArray, List.getElem_cons_succ, List.getElem_cons_zero, Act.put, List.setIfInBounds_toArray, List.set_cons_zero, List.set_cons_succ]
          refine wpAnyH_take (i := 5) (v := .int .i64 t) rfl (by kernel_rfl) (by kernel_rfl) (by kernel_rfl) (fun _ _ _ h => h) (Or.inl ⟨by rfl, by intro wx hx; go_simp⟩) (by assumption) ?_
          try simp only [List.getElem_toArray, List.getElem_cons_succ, List.getElem_cons_zero, Act.put, List.setIfInBounds_toArray, List.set_cons_zero, List.set_cons_succ]
          refine wpAnyH_take (i := 6) (v := .int .i64 r) rfl (by kernel_rfl) (by kernel_rfl) (by kernel_rfl) (fun _ _ _ h => h) (Or.inl ⟨by rfl, by intro wx hx; go_simp⟩) (by assumption) ?_
          try simp only [List.getElem_toArray, List.getElem_cons_succ, List.getElem_cons_zero, Act.put, List.setIfInBounds_toArray, List.set_cons_zero, List.set_cons_succ]
          refine wpAnyH_take (i := 8) (v := .agg #[.slice a1 M.length c1, .slice a2 S.length c2]) rfl (by kernel_rfl) (by kernel_rfl) (by kernel_rfl) (fun _ _ _ h => h) (Or.inl ⟨by rfl, by intro wx hx; obtain ⟨_, _, _⟩ := hx; go_simp⟩) (by assumption) ?_
          try simp only [List.getElem_toArray, List.getElem_cons_succ, List.getElem_cons_zero, Act.put, List.setIfInBounds_toArray, List.set_cons_zero, List.set_cons_succ]
          refine wpAnyH_take (i := 9) (v := .int .i64 s) rfl (by kernel_rfl) (by kernel_rfl) (by kernel_rfl) (fun _ _ _ h => h) (Or.inl ⟨by rfl, by intro wx hx; go_simp⟩) (by assumption) ?_
          try simp only [List.getElem_toArray, List.getElem_cons_succ, List.getElem_cons_zero, Act.put, List.setIfInBounds_toArray, List.set_cons_zero, List.set_cons_succ]
          refine wpAnyH_take (i := 10) (v := .int .i64 g) rfl (by kernel_rfl) (by kernel_rfl) (by kernel_rfl) (fun _ _ _ h => h) (Or.inl ⟨by rfl, by intro wx hx; go_simp⟩) (by assumption) ?_
          try simp only [List.getElem_toArray, List.getElem_cons_succ, List.getElem_cons_zero, Act.put, List.setIfInBounds_toArray, List.set_cons_zero, List.set_cons_succ]
          refine wpAnyH_take (i := 11) (v := .int .i64 r) rfl (by kernel_rfl) (by kernel_rfl) (by kernel_rfl) (fun _ _ _ h => h) (Or.inl ⟨by rfl, by intro wx hx; go_simp⟩) (by assumption) ?_
          try simp only [List.getElem_toArray, List.getElem_cons_succ, List.getElem_cons_zero, Act.put, List.setIfInBounds_toArray, List.set_cons_zero, List.set_cons_succ]
          refine wpAnyH_ready (rs := [7]) (by kernel_rfl) (by simp) ?_
          refine AllReadyH.cons rfl (fun K hK => ?_) AllReadyH.nil
          go_simp
          go_at_call 66
          refine (cost_any (s := t) (w0 := wr) (hM'.ext (w' := wr)) (hS'.ext (w' := wr)) hp.out hrI.out.1 hrI.out.2 hsI.out.1 hsI.out.2 htI.out.1 htI.out.2).mono ?_
          rintro e w2 ⟨rfl, hb2⟩
          go_wp2_with fail
          have eb2 : Ext wr w2 := Ext.trans ed hb2
          refine hK.out _ _ ⟨eb2, eb2.cell y0, eb2.cell y1⟩ (fun hHeld2 => ?_)
          clear hK K hHeld
          try simp only [List.getElem_toArray, List.getElem_cons_succ, List.getElem_cons_zero, Act.put, List.setIfInBounds_toArray, List.set_cons_zero, List.set_cons_succ]
          refine wpAnyH_ready (rs := [12]) (by kernel_rfl) (by simp) ?_
          refine AllReadyH.cons rfl (fun K hK => ?_) AllReadyH.nil
          go_simp
          go_at_call 66
          refine (cost_any (s := g) (w0 := wr) (hM'.ext (w' := wr)) (hS'.ext (w' := wr)) hp.out hrI.out.1 hrI.out.2 hsI.out.1 hsI.out.2 hgI.out.1 hgI.out.2).mono ?_
          rintro e w3 ⟨rfl, hb3⟩
          go_wp2_with fail
          have eb3 : Ext wr w3 := Ext.trans eb2 hb3
          refine hK.out _ _ ⟨eb3, eb3.cell y0, eb3.cell y1⟩ (fun hHeld3 => ?_)
          clear hK K hHeld2
          try simp only [List.getElem_toArray, List.getElem_cons_succ, List.getElem_cons_zero, Act.put, List.setIfInBounds_toArray, List.set_cons_zero, List.set_cons_succ]
          refine wpAnyH_take (i := 13) (v := .bool false) rfl (by kernel_rfl) (by kernel_rfl) (by kernel_rfl) (fun _ _ _ h => h) (Or.inl ⟨by rfl, by intro wx hx; go_simp⟩) (by assumption) ?_
          try simp only [List.getElem_toArray, List.getElem_cons_succ, List.getElem_cons_zero, Act.put, List.setIfInBounds_toArray, List.set_cons_zero, List.set_cons_succ]
          refine wpAnyH_take (i := 14) (v := .bool false) rfl (by kernel_rfl) (by kernel_rfl) (by kernel_rfl) (fun _ _ _ h => h) (Or.inl ⟨by rfl, by intro wx hx; go_simp⟩) (by assumption) ?_
          try simp only [List.getElem_toArray, List.getElem_cons_succ, List.getElem_cons_zero, Act.put, List.setIfInBounds_toArray, List.set_cons_zero, List.set_cons_succ]
          refine wpAnyH_done (by kernel_rfl) ?_ _
          go_wp2_with fail
          go_roundw
          case rel => exact ⟨j + 1, by omega, by go_num, by rw [h2.out], Ext.trans hd eb3⟩
          case measure => simp [intOf]; omega
    · have : j = L.length := by omega
      subst this
      rw [List.take_length]
      go_wp2
      go_ret
      exact ⟨ret_int hfin.out.symm, e1⟩

end Go.Proofs.Ytkdbgobhgnjoaab
