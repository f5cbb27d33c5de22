/- BestSchedule, as the reference finds it. -/
import Derived.Test.YtkniohcmhdgbeaaBestP
import Derived.Deep.RegionHeld3
namespace Go.Proofs.Ytkniohcmhdgbeaa
open Go.RowKit

theorem IsInts.drop {w : World} {b o c n : Nat} {xs : List Int} (h : IsInts w (.slice (some ⟨b, o, none⟩) n c) xs) {k : Nat} (_hk : k ≤ xs.length) :
    IsInts w (.slice (if c = k then some ⟨b, o, none⟩ else some ⟨b, o + k, none⟩) (xs.drop k).length (c - k)) (xs.drop k) := by
  obtain ⟨a', c'', h1, h2, h3, h4⟩ := h
  cases h1
  refine ⟨_, _, rfl, ⟨by have := h2.1; unfold Short at this ⊢; rw [List.length_drop]; omega, by have := h2.2; rw [List.length_drop]; omega⟩, fun x hx => h3 x (List.mem_of_mem_drop hx), fun j hj => ⟨b, o + k, ?_, ?_⟩⟩
  · rw [List.length_drop] at hj
    have := h2.2
    rw [if_neg (by omega)]
  · rw [List.length_drop] at hj
    obtain ⟨b', o', h5, h6⟩ := h4 (k + j) (by omega)
    cases h5
    rw [Nat.add_assoc, h6]
    simp [nth]
theorem bestS_false {M S : List (List Int)} {s : Int} {X : List Int} (h : startB M S s X = false) : bestS M S s X = [] := by simp [bestS, h]
theorem bestS_true {M S : List (List Int)} {s : Int} {X : List Int} (h : startB M S s X = true) : bestS M S s X = bsTo M S s X X.length := by simp [bestS, h]
theorem bestS_len {M S : List (List Int)} {s : Int} {X : List Int} : (bestS M S s X).length ≤ 4000000 := by
  unfold bestS
  split
  · rename_i h
    have := startB_len h
    rw [bsTo_length]
    omega
  · simp
theorem bsTo_i64 {M S : List (List Int)} {s : Int} {X : List Int} (h : startB M S s X = true) {k : Nat} (hk : k ≤ X.length) (hM : M.length ≤ 1000000) : ∀ x ∈ bsTo M S s X k, I64 x := by
  intro x hx
  obtain ⟨j, hj, rfl⟩ := List.mem_map.1 hx
  have hj' := List.mem_range.1 hj
  have := bsAt_in h (k := j + 1) (by omega)
  unfold I64
  omega
theorem bestC_nat (M S : List (List Int)) (a r t : Nat) (rest : List Int) : bestC M S a r rest t = cell M a t + cell S r t + optL M S (row M t) rest := by simp [bestC, stepC]

set_option maxHeartbeats 1600000 in
set_option maxRecDepth 100000 in
theorem specBest_any {v vX : Value} {M S : List (List Int)} {X : List Int} {s : Int} {w0 w : World} [Ext w0 w] (hp : IsProb w0 v M S) (_hs : I64 s) (hX : IsInts w0 vX X) :
    Calls Try.prog 19 #[v, .int .i64 s, vX] w fun e w' => ∃ d0 m0, e = .returned (.tuple #[.slice d0 (bestS M S s X).length m0, .bool (startB M S s X)]) ∧ IsInts w' (.slice d0 (bestS M S s X).length m0) (bestS M S s X) ∧ Ext w w' := by
  have hp' := hp
  obtain ⟨v1, v2, rfl, hM, hS⟩ := hp
  have hM' := hM
  have hS' := hS
  obtain ⟨a1, c1, rfl, l1⟩ := hM.form
  obtain ⟨a2, c2, rfl, l2⟩ := hS.form
  have hX' := hX
  obtain ⟨aX, cX, rfl, lX⟩ := hX.form
  cases hB0 : startB M S s X with
  | false =>
    have hr := hid (hB0)
    have hz0 := hid (bestS_false hr.out)
    replace hB0 := hid hB0
    go_enter Try.func19, Try.ntmps19
    go_wp2_with fail
    refine (l8Takes_any (w0 := w0) hp' hX').mono ?_; rw [hB0.out]; rintro e w1 ⟨rfl, hb1⟩
    have e1 : Ext w w1 := Ext.trans inferInstance hb1
    clear hb1
    go_wp2_with fail
    go_ret2
    rw [hz0.out]
    exact ⟨_, _, rfl, isInts_zero _ _ _, Ext.trans e1 inferInstance⟩
  | true =>
    have hst := hid hB0
    replace hB0 := hid hB0
    have hv0 := hid (bestS_true hst.out)
    have hpr := hid (startB_prob hst.out)
    have hn := hid (probB_len hpr.out)
    have hxl := hid (startB_len hst.out)
    go_enter Try.func19, Try.ntmps19
    go_wp2_with fail
    refine (l8Takes_any (w0 := w0) hp' hX').mono ?_; rw [hB0.out]; rintro e w1 ⟨rfl, hb1⟩
    have x0 : w1.cell? ⟨w.heap.size, 0, none⟩ = some (.slice a1 M.length c1) := hb1.cell (by go_simp)
    have x1 : w1.cell? ⟨w.heap.size, 1, none⟩ = some (.slice a2 S.length c2) := hb1.cell (by go_simp)
    have e1 : Ext w w1 := Ext.trans inferInstance hb1
    clear hb1
    go_upto_region 4 with fail
    have own0 : Own (w1.alloc (.cells #[] 3)) w1.heap.size [intRowOf 3 (.slice (some ⟨w1.heap.size, 0, none⟩) ([] : List Int).length 0) (bsTo M S s X 0)] := Own.litInts (Nat.le_refl _) rfl rfl (Nat.zero_le _) rfl
    have eW1 : Ext w1 (w1.alloc (.cells #[] 3)) := inferInstance
    have hwlt : w.heap.size < w1.heap.size := World.block_lt_of_cell? w1 ⟨w.heap.size, 0, none⟩ x0
    generalize w1.alloc (.cells #[] 3) = W at *
    replace hwlt := hid hwlt
    have k0 := eW1.cell x0
    have k1 := eW1.cell x1
    go_wp2
    go_loopw [8, 9, 10] (fun v q i wr => ∃ k : Nat, k ≤ X.length ∧ i = .int .i64 k ∧ q = .int .i64 (bsAt M S s X k) ∧ Own wr w1.heap.size [intRowOf 3 v (bsTo M S s X k)] ∧ Below w1.heap.size W wr) (fun _ _ i _ => X.length - (intOf i).toNat)
    case atStart => exact ⟨0, by omega, rfl, rfl, own0, Below.refl _ _⟩
    case round =>
      obtain ⟨k, hk, rfl, rfl, hown, hb0⟩ := hrel
      obtain ⟨vd, vm, rfl⟩ := hown.formInts
      obtain ⟨wo, rfl⟩ : ∃ x : World, x = wr := ⟨_, rfl⟩
      have eo : Ext w1 wo := ⟨eW1.below.trans hb0⟩
      have ewo : Ext w wo := Ext.trans e1 eo
      have e0 : Ext w0 wo := Ext.trans ‹Ext w0 w› ewo
      by_cases hlt : k < X.length
      · obtain ⟨b3, o3, rfl, hc3⟩ := hX.at (w' := wo) hlt
        have hxd := hX'.drop (k := k + 1) (by omega)
        generalize hAd : (if cX = k + 1 then (some ⟨b3, o3, none⟩ : Option Addr) else some ⟨b3, o3 + (k + 1), none⟩) = ad at hxd
        replace hAd := hid hAd
        have hr := startB_req hst.out hlt
        have ha := bsAt_in hst.out (k := k) hk
        have hz := bsAt_in hst.out (k := k + 1) (by omega)
        have hsucc := hid (bsTo_succ M S s X k)
        have hs1 := hid (show bsAt M S s X (k + 1) = bestAt M S (bsAt M S s X k) (nth X k) (X.drop (k + 1)) from rfl)
        have hlen := hid (bsTo_length M S s X k)
        obtain ⟨r, hr'⟩ := Int.eq_ofNat_of_zero_le hr.1
        obtain ⟨a, ha'⟩ := Int.eq_ofNat_of_zero_le ha.1
        have haM : a < M.length := by omega
        have hrS : r < S.length := by omega
        have hrow := hid (probB_row hpr.out hrS).1
        have hsq := hid (probB_sq hpr.out haM)
        have hin := hid (arg_in hpr.out (c := bestC M S a r (X.drop (k + 1))) hrS)
        have hstd := hid (fun (y : Nat) (hy : y < M.length) => startB_drop hst.out hy (k + 1))
        have hopt := hid (fun (y : Nat) (hy : y < M.length) => opt_in hst.out hy (k + 1))
        rw [ha', hr', bestAt, Int.toNat_natCast] at hs1
        rw [hr'] at hc3
        rw [ha']
        replace hr' := hid hr'
        replace ha' := hid ha'
        clear hr ha
        generalize hD : X.drop (k + 1) = D at *
        have hDl : X.length - (k + 1) = D.length := by rw [← hD, List.length_drop]
        replace hD := hid hD
        replace hDl := hid hDl
        generalize hO : bsTo M S s X k = O at *
        replace hO := hid hO
        go_wp2
        go_loopw [11, 12, 13] (fun p q i wi => ∃ t : Nat, t ≤ M.length ∧ i = .int .i64 t ∧ p = .int .i64 (argP ((servedTo (row S r) t).foldl (argStep (bestC M S a r D)) (-1))) ∧ q = .int .i64 (argV (bestC M S a r D) ((servedTo (row S r) t).foldl (argStep (bestC M S a r D)) (-1))) ∧ Ext wo wi) (fun _ _ i _ => M.length - (intOf i).toNat)
        case atStart => exact ⟨0, by omega, rfl, rfl, rfl, Ext.refl _⟩
        case round =>
          obtain ⟨t, ht, rfl, rfl, rfl, hd⟩ := hrel
          have hwr : Ext w wr := Ext.trans ewo hd
          have er0 : Ext w0 wr := Ext.trans ‹Ext w0 w› hwr
          have y0 : wr.cell? ⟨w.heap.size, 0, none⟩ = some (.slice a1 M.length c1) := hd.cell (eo.cell x0)
          have y1 : wr.cell? ⟨w.heap.size, 1, none⟩ = some (.slice a2 S.length c2) := hd.cell (eo.cell x1)
          have z3 := hd.cell hc3
          have hfold := hid (foldServed (argStep (bestC M S a r D)) (-1) (row S r) t)
          by_cases hltt : t < M.length
          · obtain ⟨b7, o7, d7, m7, rfl, hc7, hr7, _⟩ := hS.at (w' := wr) hrS
            rw [hrow.out] at hr7 hc7
            obtain ⟨b8, o8, rfl, hc8⟩ := hr7.at (w' := wr) (k := t) (by rw [hrow.out]; exact hltt)
            have hc8' : wr.cell? ⟨b8, o8 + t, none⟩ = some (.int .i64 (cell S r t)) := hc8
            clear hc8
            have hg0 := hid (arg_mem (c := bestC M S a r D) (servedTo (row S r) t) (-1))
            generalize (servedTo (row S r) t).foldl (argStep (bestC M S a r D)) (-1) = g at *
            by_cases hge : 0 ≤ cell S r t
            · have hge' : decide (cell S r t < 0) = false := by simpa using hge
              have hf2 := hid (hfold.out.trans (if_pos hge))
              clear hfold
              have hgc := hid (show 0 ≤ g → 0 ≤ bestC M S a r D g by
                intro h0
                rcases hg0.out with h | h
                · omega
                · obtain ⟨i, hi, h1, rfl⟩ := servedTo_mem.1 h
                  have q := (probB_move hpr.out haM (show i < M.length by omega)).1
                  have q2 := (hopt.out i (by omega)).1
                  have h1' : 0 ≤ cell S r i := h1
                  rw [bestC_nat]
                  omega)
              have hst3 := hid (argP_step (c := bestC M S a r D) (g := g) (t := (t : Int)) (by omega) hgc.out)
              obtain ⟨b5, o5, d5, m5, rfl, hc5, hr5, _⟩ := hM.at (w' := wr) haM
              rw [hsq.out] at hr5 hc5
              obtain ⟨b6, o6, rfl, hc6⟩ := hr5.at (w' := wr) (k := t) (by rw [hsq.out]; exact hltt)
              have hc6' : wr.cell? ⟨b6, o6 + t, none⟩ = some (.int .i64 (cell M a t)) := hc6
              clear hc6
              have q2 := probB_serve hpr.out hrS hltt
              have q3 := probB_move hpr.out haM hltt
              have q4 := hopt.out t hltt
              have hcv := hid (bestC_nat M S a r t D)
              rw [hcv.out] at hst3
              have hstt := hid (hstd.out t hltt)
              generalize hop : optL M S (row M t) D = op at *
              replace hop := hid hop
              generalize argV (bestC M S a r D) g = vg at *
              generalize argP g = pg at *
              by_cases hv0' : vg < 0
              · have hv0'' : decide (vg < 0) = true := by simpa using hv0'
                have h2 := hid (hst3.out.1 (.inl hv0'))
                clear hst3
                go_upto_region 12 with (go_quiet (fail))
                have ed : Ext wr (wr.drewN nq).drew := inferInstance
                refine wp_region_held_drew (S := fun w' => Ext wr w' ∧ w'.cell? ⟨w.heap.size, 0, none⟩ = some (.slice (some ⟨b5, o5, none⟩) M.length c1) ∧ w'.cell? ⟨w.heap.size, 1, none⟩ = some (.slice (some ⟨b7, o7, none⟩) S.length c2) ∧ w'.cell? ⟨b3, o3 + k, none⟩ = some (.int .i64 r) ∧ w'.cell? ⟨b5, o5 + a, none⟩ = some (.slice (some ⟨b6, o6, none⟩) M.length m5) ∧ w'.cell? ⟨b6, o6 + t, none⟩ = some (.int .i64 (cell M a t)) ∧ w'.cell? ⟨b7, o7 + r, none⟩ = some (.slice (some ⟨b8, o8, none⟩) M.length m7) ∧ w'.cell? ⟨b8, o8 + t, none⟩ = some (.int .i64 (cell S r t))) (by kernel_rfl) ⟨ed, ed.cell y0, ed.cell y1, ed.cell z3, ed.cell hc5, ed.cell hc6', ed.cell hc7, ed.cell hc8'⟩ (fun hHeld0 => ?_)
                refine wpAnyH_take (i := 0) (v := .pointer (some ⟨w.heap.size, 0, none⟩)) rfl (by kernel_rfl) (by kernel_rfl) (by kernel_rfl) (fun _ _ _ h => h) (Or.inl ⟨by rfl, by intro wx hx; go_simp⟩) (by assumption) ?_
                try simp only [List.getElem_toArray, List.getElem_cons_zero, Act.put, List.setIfInBounds_toArray, List.set_cons_zero, List.set_cons_succ]
                refine wpAnyH_take (i := 1) (v := .slice (some ⟨b5, o5, none⟩) M.length c1) rfl (by kernel_rfl) (by kernel_rfl) (by kernel_rfl) (fun _ _ _ h => h) (Or.inl ⟨by rfl, by intro wx hx; obtain ⟨_, _, _, _, _, _, _, _⟩ := hx; go_simp⟩) (by assumption) ?_
                try simp only [List.getElem_toArray, List.getElem_cons_succ, List.getElem_cons_zero, Act.put, List.setIfInBounds_toArray, List.set_cons_zero, List.set_cons_succ]
                refine wpAnyH_take (i := 2) (v := .int .i64 a) rfl (by kernel_rfl) (by kernel_rfl) (by kernel_rfl) (fun _ _ _ h => h) (Or.inl ⟨by rfl, by intro wx hx; go_simp⟩) (by assumption) ?_
                try simp only [List.getElem_toArray, List.getElem_cons_succ, List.getElem_cons_zero, Act.put, List.setIfInBounds_toArray, List.set_cons_zero, List.set_cons_succ]
                refine wpAnyH_take (i := 3) (v := .pointer (some ⟨b5, o5 + a, none⟩)) rfl (by kernel_rfl) (by kernel_rfl) (by kernel_rfl) (fun _ _ _ h => h) (Or.inl ⟨by rfl, by intro wx hx; go_simp⟩) (by assumption) ?_
                try simp only [List.getElem_toArray, List.getElem_cons_succ, List.getElem_cons_zero, Act.put, List.setIfInBounds_toArray, List.set_cons_zero, List.set_cons_succ]
                refine wpAnyH_take (i := 4) (v := .slice (some ⟨b6, o6, none⟩) M.length m5) rfl (by kernel_rfl) (by kernel_rfl) (by kernel_rfl) (fun _ _ _ h => h) (Or.inl ⟨by rfl, by intro wx hx; obtain ⟨_, _, _, _, _, _, _, _⟩ := hx; go_simp⟩) (by assumption) ?_
                try simp only [List.getElem_toArray, List.getElem_cons_succ, List.getElem_cons_zero, Act.put, List.setIfInBounds_toArray, List.set_cons_zero, List.set_cons_succ]
                refine wpAnyH_take (i := 5) (v := .int .i64 t) rfl (by kernel_rfl) (by kernel_rfl) (by kernel_rfl) (fun _ _ _ h => h) (Or.inl ⟨by rfl, by intro wx hx; go_simp⟩) (by assumption) ?_
                try simp only [List.getElem_toArray, List.getElem_cons_succ, List.getElem_cons_zero, Act.put, List.setIfInBounds_toArray, List.set_cons_zero, List.set_cons_succ]
                refine wpAnyH_take (i := 6) (v := .pointer (some ⟨b6, o6 + t, none⟩)) rfl (by kernel_rfl) (by kernel_rfl) (by kernel_rfl) (fun _ _ _ h => h) (Or.inl ⟨by rfl, by intro wx hx; go_simp⟩) (by assumption) ?_
                try simp only [List.getElem_toArray, List.getElem_cons_succ, List.getElem_cons_zero, Act.put, List.setIfInBounds_toArray, List.set_cons_zero, List.set_cons_succ]
                refine wpAnyH_take (i := 7) (v := .int .i64 (cell M a t)) rfl (by kernel_rfl) (by kernel_rfl) (by kernel_rfl) (fun _ _ _ h => h) (Or.inl ⟨by rfl, by intro wx hx; obtain ⟨_, _, _, _, _, _, _, _⟩ := hx; go_simp⟩) (by assumption) ?_
                try simp only [List.getElem_toArray, List.getElem_cons_succ, List.getElem_cons_zero, Act.put, List.setIfInBounds_toArray, List.set_cons_zero, List.set_cons_succ]
                refine wpAnyH_take (i := 8) (v := .pointer (some ⟨w.heap.size, 1, none⟩)) rfl (by kernel_rfl) (by kernel_rfl) (by kernel_rfl) (fun _ _ _ h => h) (Or.inl ⟨by rfl, by intro wx hx; go_simp⟩) (by assumption) ?_
                try simp only [List.getElem_toArray, List.getElem_cons_succ, List.getElem_cons_zero, Act.put, List.setIfInBounds_toArray, List.set_cons_zero, List.set_cons_succ]
                refine wpAnyH_take (i := 9) (v := .slice (some ⟨b7, o7, none⟩) S.length c2) rfl (by kernel_rfl) (by kernel_rfl) (by kernel_rfl) (fun _ _ _ h => h) (Or.inl ⟨by rfl, by intro wx hx; obtain ⟨_, _, _, _, _, _, _, _⟩ := hx; go_simp⟩) (by assumption) ?_
                try simp only [List.getElem_toArray, List.getElem_cons_succ, List.getElem_cons_zero, Act.put, List.setIfInBounds_toArray, List.set_cons_zero, List.set_cons_succ]
                refine wpAnyH_take (i := 10) (v := .slice (some ⟨b3, o3, none⟩) X.length cX) rfl (by kernel_rfl) (by kernel_rfl) (by kernel_rfl) (fun _ _ _ h => h) (Or.inl ⟨by rfl, by intro wx hx; go_simp⟩) (by assumption) ?_
                try simp only [List.getElem_toArray, List.getElem_cons_succ, List.getElem_cons_zero, Act.put, List.setIfInBounds_toArray, List.set_cons_zero, List.set_cons_succ]
                refine wpAnyH_take (i := 11) (v := .int .i64 k) rfl (by kernel_rfl) (by kernel_rfl) (by kernel_rfl) (fun _ _ _ h => h) (Or.inl ⟨by rfl, by intro wx hx; go_simp⟩) (by assumption) ?_
                try simp only [List.getElem_toArray, List.getElem_cons_succ, List.getElem_cons_zero, Act.put, List.setIfInBounds_toArray, List.set_cons_zero, List.set_cons_succ]
                refine wpAnyH_take (i := 12) (v := .pointer (some ⟨b3, o3 + k, none⟩)) rfl (by kernel_rfl) (by kernel_rfl) (by kernel_rfl) (fun _ _ _ h => h) (Or.inl ⟨by rfl, by intro wx hx; go_simp⟩) (by assumption) ?_
                try simp only [List.getElem_toArray, List.getElem_cons_succ, List.getElem_cons_zero, Act.put, List.setIfInBounds_toArray, List.set_cons_zero, List.set_cons_succ]
                refine wpAnyH_take (i := 13) (v := .int .i64 r) rfl (by kernel_rfl) (by kernel_rfl) (by kernel_rfl) (fun _ _ _ h => h) (Or.inl ⟨by rfl, by intro wx hx; obtain ⟨_, _, _, _, _, _, _, _⟩ := hx; go_simp⟩) (by assumption) ?_
                try simp only [List.getElem_toArray, List.getElem_cons_succ, List.getElem_cons_zero, Act.put, List.setIfInBounds_toArray, List.set_cons_zero, List.set_cons_succ]
                refine wpAnyH_take (i := 14) (v := .pointer (some ⟨b7, o7 + r, none⟩)) rfl (by kernel_rfl) (by kernel_rfl) (by kernel_rfl) (fun _ _ _ h => h) (Or.inl ⟨by rfl, by intro wx hx; go_simp⟩) (by assumption) ?_
                try simp only [List.getElem_toArray, List.getElem_cons_succ, List.getElem_cons_zero, Act.put, List.setIfInBounds_toArray, List.set_cons_zero, List.set_cons_succ]
                refine wpAnyH_take (i := 15) (v := .slice (some ⟨b8, o8, none⟩) M.length m7) rfl (by kernel_rfl) (by kernel_rfl) (by kernel_rfl) (fun _ _ _ h => h) (Or.inl ⟨by rfl, by intro wx hx; obtain ⟨_, _, _, _, _, _, _, _⟩ := hx; go_simp⟩) (by assumption) ?_
                try simp only [List.getElem_toArray, List.getElem_cons_succ, List.getElem_cons_zero, Act.put, List.setIfInBounds_toArray, List.set_cons_zero, List.set_cons_succ]
                refine wpAnyH_take (i := 16) (v := .int .i64 t) rfl (by kernel_rfl) (by kernel_rfl) (by kernel_rfl) (fun _ _ _ h => h) (Or.inl ⟨by rfl, by intro wx hx; go_simp⟩) (by assumption) ?_
                try simp only [List.getElem_toArray, List.getElem_cons_succ, List.getElem_cons_zero, Act.put, List.setIfInBounds_toArray, List.set_cons_zero, List.set_cons_succ]
                refine wpAnyH_take (i := 17) (v := .pointer (some ⟨b8, o8 + t, none⟩)) rfl (by kernel_rfl) (by kernel_rfl) (by kernel_rfl) (fun _ _ _ h => h) (Or.inl ⟨by rfl, by intro wx hx; go_simp⟩) (by assumption) ?_
                try simp only [List.getElem_toArray, List.getElem_cons_succ, List.getElem_cons_zero, Act.put, List.setIfInBounds_toArray, List.set_cons_zero, List.set_cons_succ]
                refine wpAnyH_take (i := 18) (v := .int .i64 (cell S r t)) rfl (by kernel_rfl) (by kernel_rfl) (by kernel_rfl) (fun _ _ _ h => h) (Or.inl ⟨by rfl, by intro wx hx; obtain ⟨_, _, _, _, _, _, _, _⟩ := hx; go_simp⟩) (by assumption) ?_
                try simp only [List.getElem_toArray, List.getElem_cons_succ, List.getElem_cons_zero, Act.put, List.setIfInBounds_toArray, List.set_cons_zero, List.set_cons_succ]
                refine wpAnyH_take (i := 19) (v := .int .i64 (cell M a t + cell S r t)) rfl (by kernel_rfl) (by kernel_rfl) (by kernel_rfl) (fun _ _ _ h => h) (Or.inl ⟨by rfl, by intro wx hx; go_simp; exact IntWalk.i64_in _ (by omega)⟩) (by assumption) ?_
                try simp only [List.getElem_toArray, List.getElem_cons_succ, List.getElem_cons_zero, Act.put, List.setIfInBounds_toArray, List.set_cons_zero, List.set_cons_succ]
                refine wpAnyH_take (i := 20) (v := .agg #[.slice (some ⟨b5, o5, none⟩) M.length c1, .slice (some ⟨b7, o7, none⟩) S.length c2]) rfl (by kernel_rfl) (by kernel_rfl) (by kernel_rfl) (fun _ _ _ h => h) (Or.inl ⟨by rfl, by intro wx hx; obtain ⟨_, _, _, _, _, _, _, _⟩ := hx; go_simp⟩) (by assumption) ?_
                try simp only [List.getElem_toArray, List.getElem_cons_succ, List.getElem_cons_zero, Act.put, List.setIfInBounds_toArray, List.set_cons_zero, List.set_cons_succ]
                refine wpAnyH_take (i := 21) (v := .int .i64 t) rfl (by kernel_rfl) (by kernel_rfl) (by kernel_rfl) (fun _ _ _ h => h) (Or.inl ⟨by rfl, by intro wx hx; go_simp⟩) (by assumption) ?_
                try simp only [List.getElem_toArray, List.getElem_cons_succ, List.getElem_cons_zero, Act.put, List.setIfInBounds_toArray, List.set_cons_zero, List.set_cons_succ]
                refine wpAnyH_take (i := 22) (v := .slice (some ⟨b3, o3, none⟩) X.length cX) rfl (by kernel_rfl) (by kernel_rfl) (by kernel_rfl) (fun _ _ _ h => h) (Or.inl ⟨by rfl, by intro wx hx; go_simp⟩) (by assumption) ?_
                try simp only [List.getElem_toArray, List.getElem_cons_succ, List.getElem_cons_zero, Act.put, List.setIfInBounds_toArray, List.set_cons_zero, List.set_cons_succ]
                refine wpAnyH_take (i := 23) (v := .int .i64 k) rfl (by kernel_rfl) (by kernel_rfl) (by kernel_rfl) (fun _ _ _ h => h) (Or.inl ⟨by rfl, by intro wx hx; go_simp⟩) (by assumption) ?_
                try simp only [List.getElem_toArray, List.getElem_cons_succ, List.getElem_cons_zero, Act.put, List.setIfInBounds_toArray, List.set_cons_zero, List.set_cons_succ]
                refine wpAnyH_take (i := 24) (v := .int .i64 ((k : Int) + 1)) rfl (by kernel_rfl) (by kernel_rfl) (by kernel_rfl) (fun _ _ _ h => h) (Or.inl ⟨by rfl, by intro wx hx; go_simp; exact IntWalk.i64_in _ (by have := hxl.out; omega)⟩) (by assumption) ?_
                try simp only [List.getElem_toArray, List.getElem_cons_succ, List.getElem_cons_zero, Act.put, List.setIfInBounds_toArray, List.set_cons_zero, List.set_cons_succ]
                refine wpAnyH_take (i := 25) (v := .slice ad D.length (cX - (k + 1))) rfl (by kernel_rfl) (by kernel_rfl) (by kernel_rfl) (fun _ _ _ h => h) (Or.inl ⟨by rfl, by intro wx hx; go_simp; rw [if_pos (by omega), hDl.out, hAd.out]⟩) (by assumption) ?_
                try simp only [List.getElem_toArray, List.getElem_cons_succ, List.getElem_cons_zero, Act.put, List.setIfInBounds_toArray, List.set_cons_zero, List.set_cons_succ]
                refine wpAnyH_ready (rs := [26]) (by kernel_rfl) (by simp) ?_
                refine AllReadyH.cons rfl (fun K hK => ?_) AllReadyH.nil
                go_simp
                go_at_call 48
                refine (l8Opt_any (w0 := wr) (hM'.ext (w' := wr)) (hS'.ext (w' := wr)) (hxd.ext (w' := wr)) hstt.out).mono ?_
                rw [Int.toNat_natCast, hop.out]
                rintro e w2 ⟨rfl, hb2⟩
                go_wp2_with fail
                have er1 : Ext wr w2 := Ext.trans ed hb2
                refine hK.out _ _ ⟨er1, er1.cell y0, er1.cell y1, er1.cell z3, er1.cell hc5, er1.cell hc6', er1.cell hc7, er1.cell hc8'⟩ (fun hHeld1 => ?_)
                clear hK K hHeld0
                try simp only [List.getElem_toArray, List.getElem_cons_succ, List.getElem_cons_zero, Act.put, List.setIfInBounds_toArray, List.set_cons_zero, List.set_cons_succ]
                refine wpAnyH_take (i := 27) (v := .int .i64 (cell M a t + cell S r t + op)) rfl (by kernel_rfl) (by kernel_rfl) (by kernel_rfl) (fun _ _ _ h => h) (Or.inl ⟨by rfl, by intro wx hx; go_simp; exact IntWalk.i64_in _ (by omega)⟩) (by assumption) ?_
                try simp only [List.getElem_toArray, List.getElem_cons_succ, List.getElem_cons_zero, Act.put, List.setIfInBounds_toArray, List.set_cons_zero, List.set_cons_succ]
                refine wpAnyH_take (i := 28) (v := .int .i64 (cell M a t + cell S r t + op)) rfl (by kernel_rfl) (by kernel_rfl) (by kernel_rfl) (fun _ _ _ h => h) (Or.inl ⟨by rfl, by intro wx hx; go_simp⟩) (by assumption) ?_
                try simp only [List.getElem_toArray, List.getElem_cons_succ, List.getElem_cons_zero, Act.put, List.setIfInBounds_toArray, List.set_cons_zero, List.set_cons_succ]
                refine wpAnyH_done (by kernel_rfl) ?_ _
                go_wp2_with fail
                go_roundw
                case rel => exact ⟨t + 1, by omega, by go_num, by rw [hf2.out, h2.out.1], by rw [hf2.out, h2.out.2], Ext.trans hd er1⟩
                case measure => simp [intOf]; omega
              · have hv0'' : decide (vg < 0) = false := by simpa using hv0'
                by_cases hlv : cell M a t + cell S r t + op < vg
                · have hlv' : decide (cell M a t + cell S r t + op < vg) = true := by simpa using hlv
                  have h2 := hid (hst3.out.1 (.inr hlv))
                  clear hst3
                  go_upto_region 12 with (go_quiet (fail))
                  have ed : Ext wr (wr.drewN nq).drew := inferInstance
                  refine wp_region_held_drew (S := fun w' => Ext wr w' ∧ w'.cell? ⟨w.heap.size, 0, none⟩ = some (.slice (some ⟨b5, o5, none⟩) M.length c1) ∧ w'.cell? ⟨w.heap.size, 1, none⟩ = some (.slice (some ⟨b7, o7, none⟩) S.length c2) ∧ w'.cell? ⟨b3, o3 + k, none⟩ = some (.int .i64 r) ∧ w'.cell? ⟨b5, o5 + a, none⟩ = some (.slice (some ⟨b6, o6, none⟩) M.length m5) ∧ w'.cell? ⟨b6, o6 + t, none⟩ = some (.int .i64 (cell M a t)) ∧ w'.cell? ⟨b7, o7 + r, none⟩ = some (.slice (some ⟨b8, o8, none⟩) M.length m7) ∧ w'.cell? ⟨b8, o8 + t, none⟩ = some (.int .i64 (cell S r t))) (by kernel_rfl) ⟨ed, ed.cell y0, ed.cell y1, ed.cell z3, ed.cell hc5, ed.cell hc6', ed.cell hc7, ed.cell hc8'⟩ (fun hHeld0 => ?_)
                  refine wpAnyH_take (i := 0) (v := .pointer (some ⟨w.heap.size, 0, none⟩)) rfl (by kernel_rfl) (by kernel_rfl) (by kernel_rfl) (fun _ _ _ h => h) (Or.inl ⟨by rfl, by intro wx hx; go_simp⟩) (by assumption) ?_
                  try simp only [List.getElem_toArray, List.getElem_cons_zero, Act.put, List.setIfInBounds_toArray, List.set_cons_zero, List.set_cons_succ]
                  refine wpAnyH_take (i := 1) (v := .slice (some ⟨b5, o5, none⟩) M.length c1) rfl (by kernel_rfl) (by kernel_rfl) (by kernel_rfl) (fun _ _ _ h => h) (Or.inl ⟨by rfl, by intro wx hx; obtain ⟨_, _, _, _, _, _, _, _⟩ := hx; go_simp⟩) (by assumption) ?_
                  try simp only [List.getElem_toArray, List.getElem_cons_succ, List.getElem_cons_zero, Act.put, List.setIfInBounds_toArray, List.set_cons_zero, List.set_cons_succ]
                  refine wpAnyH_take (i := 2) (v := .int .i64 a) rfl (by kernel_rfl) (by kernel_rfl) (by kernel_rfl) (fun _ _ _ h => h) (Or.inl ⟨by rfl, by intro wx hx; go_simp⟩) (by assumption) ?_
                  try simp only [List.getElem_toArray, List.getElem_cons_succ, List.getElem_cons_zero, Act.put, List.setIfInBounds_toArray, List.set_cons_zero, List.set_cons_succ]
                  refine wpAnyH_take (i := 3) (v := .pointer (some ⟨b5, o5 + a, none⟩)) rfl (by kernel_rfl) (by kernel_rfl) (by kernel_rfl) (fun _ _ _ h => h) (Or.inl ⟨by rfl, by intro wx hx; go_simp⟩) (by assumption) ?_
                  try simp only [List.getElem_toArray, List.getElem_cons_succ, List.getElem_cons_zero, Act.put, List.setIfInBounds_toArray, List.set_cons_zero, List.set_cons_succ]
                  refine wpAnyH_take (i := 4) (v := .slice (some ⟨b6, o6, none⟩) M.length m5) rfl (by kernel_rfl) (by kernel_rfl) (by kernel_rfl) (fun _ _ _ h => h) (Or.inl ⟨by rfl, by intro wx hx; obtain ⟨_, _, _, _, _, _, _, _⟩ := hx; go_simp⟩) (by assumption) ?_
                  try simp only [List.getElem_toArray, List.getElem_cons_succ, List.getElem_cons_zero, Act.put, List.setIfInBounds_toArray, List.set_cons_zero, List.set_cons_succ]
                  refine wpAnyH_take (i := 5) (v := .int .i64 t) rfl (by kernel_rfl) (by kernel_rfl) (by kernel_rfl) (fun _ _ _ h => h) (Or.inl ⟨by rfl, by intro wx hx; go_simp⟩) (by assumption) ?_
                  try simp only [List.getElem_toArray, List.getElem_cons_succ, List.getElem_cons_zero, Act.put, List.setIfInBounds_toArray, List.set_cons_zero, List.set_cons_succ]
                  refine wpAnyH_take (i := 6) (v := .pointer (some ⟨b6, o6 + t, none⟩)) rfl (by kernel_rfl) (by kernel_rfl) (by kernel_rfl) (fun _ _ _ h => h) (Or.inl ⟨by rfl, by intro wx hx; go_simp⟩) (by assumption) ?_
                  try simp only [List.getElem_toArray, List.getElem_cons_succ, List.getElem_cons_zero, Act.put, List.setIfInBounds_toArray, List.set_cons_zero, List.set_cons_succ]
                  refine wpAnyH_take (i := 7) (v := .int .i64 (cell M a t)) rfl (by kernel_rfl) (by kernel_rfl) (by kernel_rfl) (fun _ _ _ h => h) (Or.inl ⟨by rfl, by intro wx hx; obtain ⟨_, _, _, _, _, _, _, _⟩ := hx; go_simp⟩) (by assumption) ?_
                  try simp only [List.getElem_toArray, List.getElem_cons_succ, List.getElem_cons_zero, Act.put, List.setIfInBounds_toArray, List.set_cons_zero, List.set_cons_succ]
                  refine wpAnyH_take (i := 8) (v := .pointer (some ⟨w.heap.size, 1, none⟩)) rfl (by kernel_rfl) (by kernel_rfl) (by kernel_rfl) (fun _ _ _ h => h) (Or.inl ⟨by rfl, by intro wx hx; go_simp⟩) (by assumption) ?_
                  try simp only [List.getElem_toArray, List.getElem_cons_succ, List.getElem_cons_zero, Act.put, List.setIfInBounds_toArray, List.set_cons_zero, List.set_cons_succ]
                  refine wpAnyH_take (i := 9) (v := .slice (some ⟨b7, o7, none⟩) S.length c2) rfl (by kernel_rfl) (by kernel_rfl) (by kernel_rfl) (fun _ _ _ h => h) (Or.inl ⟨by rfl, by intro wx hx; obtain ⟨_, _, _, _, _, _, _, _⟩ := hx; go_simp⟩) (by assumption) ?_
                  try simp only [List.getElem_toArray, List.getElem_cons_succ, List.getElem_cons_zero, Act.put, List.setIfInBounds_toArray, List.set_cons_zero, List.set_cons_succ]
                  refine wpAnyH_take (i := 10) (v := .slice (some ⟨b3, o3, none⟩) X.length cX) rfl (by kernel_rfl) (by kernel_rfl) (by kernel_rfl) (fun _ _ _ h => h) (Or.inl ⟨by rfl, by intro wx hx; go_simp⟩) (by assumption) ?_
                  try simp only [List.getElem_toArray, List.getElem_cons_succ, List.getElem_cons_zero, Act.put, List.setIfInBounds_toArray, List.set_cons_zero, List.set_cons_succ]
                  refine wpAnyH_take (i := 11) (v := .int .i64 k) rfl (by kernel_rfl) (by kernel_rfl) (by kernel_rfl) (fun _ _ _ h => h) (Or.inl ⟨by rfl, by intro wx hx; go_simp⟩) (by assumption) ?_
                  try simp only [List.getElem_toArray, List.getElem_cons_succ, List.getElem_cons_zero, Act.put, List.setIfInBounds_toArray, List.set_cons_zero, List.set_cons_succ]
                  refine wpAnyH_take (i := 12) (v := .pointer (some ⟨b3, o3 + k, none⟩)) rfl (by kernel_rfl) (by kernel_rfl) (by kernel_rfl) (fun _ _ _ h => h) (Or.inl ⟨by rfl, by intro wx hx; go_simp⟩) (by assumption) ?_
                  try simp only [List.getElem_toArray, List.getElem_cons_succ, List.getElem_cons_zero, Act.put, List.setIfInBounds_toArray, List.set_cons_zero, List.set_cons_succ]
                  refine wpAnyH_take (i := 13) (v := .int .i64 r) rfl (by kernel_rfl) (by kernel_rfl) (by kernel_rfl) (fun _ _ _ h => h) (Or.inl ⟨by rfl, by intro wx hx; obtain ⟨_, _, _, _, _, _, _, _⟩ := hx; go_simp⟩) (by assumption) ?_
                  try simp only [List.getElem_toArray, List.getElem_cons_succ, List.getElem_cons_zero, Act.put, List.setIfInBounds_toArray, List.set_cons_zero, List.set_cons_succ]
                  refine wpAnyH_take (i := 14) (v := .pointer (some ⟨b7, o7 + r, none⟩)) rfl (by kernel_rfl) (by kernel_rfl) (by kernel_rfl) (fun _ _ _ h => h) (Or.inl ⟨by rfl, by intro wx hx; go_simp⟩) (by assumption) ?_
                  try simp only [List.getElem_toArray, List.getElem_cons_succ, List.getElem_cons_zero, Act.put, List.setIfInBounds_toArray, List.set_cons_zero, List.set_cons_succ]
                  refine wpAnyH_take (i := 15) (v := .slice (some ⟨b8, o8, none⟩) M.length m7) rfl (by kernel_rfl) (by kernel_rfl) (by kernel_rfl) (fun _ _ _ h => h) (Or.inl ⟨by rfl, by intro wx hx; obtain ⟨_, _, _, _, _, _, _, _⟩ := hx; go_simp⟩) (by assumption) ?_
                  try simp only [List.getElem_toArray, List.getElem_cons_succ, List.getElem_cons_zero, Act.put, List.setIfInBounds_toArray, List.set_cons_zero, List.set_cons_succ]
                  refine wpAnyH_take (i := 16) (v := .int .i64 t) rfl (by kernel_rfl) (by kernel_rfl) (by kernel_rfl) (fun _ _ _ h => h) (Or.inl ⟨by rfl, by intro wx hx; go_simp⟩) (by assumption) ?_
                  try simp only [List.getElem_toArray, List.getElem_cons_succ, List.getElem_cons_zero, Act.put, List.setIfInBounds_toArray, List.set_cons_zero, List.set_cons_succ]
                  refine wpAnyH_take (i := 17) (v := .pointer (some ⟨b8, o8 + t, none⟩)) rfl (by kernel_rfl) (by kernel_rfl) (by kernel_rfl) (fun _ _ _ h => h) (Or.inl ⟨by rfl, by intro wx hx; go_simp⟩) (by assumption) ?_
                  try simp only [List.getElem_toArray, List.getElem_cons_succ, List.getElem_cons_zero, Act.put, List.setIfInBounds_toArray, List.set_cons_zero, List.set_cons_succ]
                  refine wpAnyH_take (i := 18) (v := .int .i64 (cell S r t)) rfl (by kernel_rfl) (by kernel_rfl) (by kernel_rfl) (fun _ _ _ h => h) (Or.inl ⟨by rfl, by intro wx hx; obtain ⟨_, _, _, _, _, _, _, _⟩ := hx; go_simp⟩) (by assumption) ?_
                  try simp only [List.getElem_toArray, List.getElem_cons_succ, List.getElem_cons_zero, Act.put, List.setIfInBounds_toArray, List.set_cons_zero, List.set_cons_succ]
                  refine wpAnyH_take (i := 19) (v := .int .i64 (cell M a t + cell S r t)) rfl (by kernel_rfl) (by kernel_rfl) (by kernel_rfl) (fun _ _ _ h => h) (Or.inl ⟨by rfl, by intro wx hx; go_simp; exact IntWalk.i64_in _ (by omega)⟩) (by assumption) ?_
                  try simp only [List.getElem_toArray, List.getElem_cons_succ, List.getElem_cons_zero, Act.put, List.setIfInBounds_toArray, List.set_cons_zero, List.set_cons_succ]
                  refine wpAnyH_take (i := 20) (v := .agg #[.slice (some ⟨b5, o5, none⟩) M.length c1, .slice (some ⟨b7, o7, none⟩) S.length c2]) rfl (by kernel_rfl) (by kernel_rfl) (by kernel_rfl) (fun _ _ _ h => h) (Or.inl ⟨by rfl, by intro wx hx; obtain ⟨_, _, _, _, _, _, _, _⟩ := hx; go_simp⟩) (by assumption) ?_
                  try simp only [List.getElem_toArray, List.getElem_cons_succ, List.getElem_cons_zero, Act.put, List.setIfInBounds_toArray, List.set_cons_zero, List.set_cons_succ]
                  refine wpAnyH_take (i := 21) (v := .int .i64 t) rfl (by kernel_rfl) (by kernel_rfl) (by kernel_rfl) (fun _ _ _ h => h) (Or.inl ⟨by rfl, by intro wx hx; go_simp⟩) (by assumption) ?_
                  try simp only [List.getElem_toArray, List.getElem_cons_succ, List.getElem_cons_zero, Act.put, List.setIfInBounds_toArray, List.set_cons_zero, List.set_cons_succ]
                  refine wpAnyH_take (i := 22) (v := .slice (some ⟨b3, o3, none⟩) X.length cX) rfl (by kernel_rfl) (by kernel_rfl) (by kernel_rfl) (fun _ _ _ h => h) (Or.inl ⟨by rfl, by intro wx hx; go_simp⟩) (by assumption) ?_
                  try simp only [List.getElem_toArray, List.getElem_cons_succ, List.getElem_cons_zero, Act.put, List.setIfInBounds_toArray, List.set_cons_zero, List.set_cons_succ]
                  refine wpAnyH_take (i := 23) (v := .int .i64 k) rfl (by kernel_rfl) (by kernel_rfl) (by kernel_rfl) (fun _ _ _ h => h) (Or.inl ⟨by rfl, by intro wx hx; go_simp⟩) (by assumption) ?_
                  try simp only [List.getElem_toArray, List.getElem_cons_succ, List.getElem_cons_zero, Act.put, List.setIfInBounds_toArray, List.set_cons_zero, List.set_cons_succ]
                  refine wpAnyH_take (i := 24) (v := .int .i64 ((k : Int) + 1)) rfl (by kernel_rfl) (by kernel_rfl) (by kernel_rfl) (fun _ _ _ h => h) (Or.inl ⟨by rfl, by intro wx hx; go_simp; exact IntWalk.i64_in _ (by have := hxl.out; omega)⟩) (by assumption) ?_
                  try simp only [List.getElem_toArray, List.getElem_cons_succ, List.getElem_cons_zero, Act.put, List.setIfInBounds_toArray, List.set_cons_zero, List.set_cons_succ]
                  refine wpAnyH_take (i := 25) (v := .slice ad D.length (cX - (k + 1))) rfl (by kernel_rfl) (by kernel_rfl) (by kernel_rfl) (fun _ _ _ h => h) (Or.inl ⟨by rfl, by intro wx hx; go_simp; rw [if_pos (by omega), hDl.out, hAd.out]⟩) (by assumption) ?_
                  try simp only [List.getElem_toArray, List.getElem_cons_succ, List.getElem_cons_zero, Act.put, List.setIfInBounds_toArray, List.set_cons_zero, List.set_cons_succ]
                  refine wpAnyH_ready (rs := [26]) (by kernel_rfl) (by simp) ?_
                  refine AllReadyH.cons rfl (fun K hK => ?_) AllReadyH.nil
                  go_simp
                  go_at_call 48
                  refine (l8Opt_any (w0 := wr) (hM'.ext (w' := wr)) (hS'.ext (w' := wr)) (hxd.ext (w' := wr)) hstt.out).mono ?_
                  rw [Int.toNat_natCast, hop.out]
                  rintro e w2 ⟨rfl, hb2⟩
                  go_wp2_with fail
                  have er1 : Ext wr w2 := Ext.trans ed hb2
                  refine hK.out _ _ ⟨er1, er1.cell y0, er1.cell y1, er1.cell z3, er1.cell hc5, er1.cell hc6', er1.cell hc7, er1.cell hc8'⟩ (fun hHeld1 => ?_)
                  clear hK K hHeld0
                  try simp only [List.getElem_toArray, List.getElem_cons_succ, List.getElem_cons_zero, Act.put, List.setIfInBounds_toArray, List.set_cons_zero, List.set_cons_succ]
                  refine wpAnyH_take (i := 27) (v := .int .i64 (cell M a t + cell S r t + op)) rfl (by kernel_rfl) (by kernel_rfl) (by kernel_rfl) (fun _ _ _ h => h) (Or.inl ⟨by rfl, by intro wx hx; go_simp; exact IntWalk.i64_in _ (by omega)⟩) (by assumption) ?_
                  try simp only [List.getElem_toArray, List.getElem_cons_succ, List.getElem_cons_zero, Act.put, List.setIfInBounds_toArray, List.set_cons_zero, List.set_cons_succ]
                  refine wpAnyH_take (i := 28) (v := .int .i64 (cell M a t + cell S r t + op)) rfl (by kernel_rfl) (by kernel_rfl) (by kernel_rfl) (fun _ _ _ h => h) (Or.inl ⟨by rfl, by intro wx hx; go_simp⟩) (by assumption) ?_
                  try simp only [List.getElem_toArray, List.getElem_cons_succ, List.getElem_cons_zero, Act.put, List.setIfInBounds_toArray, List.set_cons_zero, List.set_cons_succ]
                  refine wpAnyH_done (by kernel_rfl) ?_ _
                  go_wp2_with fail
                  go_roundw
                  case rel => exact ⟨t + 1, by omega, by go_num, by rw [hf2.out, h2.out.1], by rw [hf2.out, h2.out.2], Ext.trans hd er1⟩
                  case measure => simp [intOf]; omega
                · have hlv' : decide (cell M a t + cell S r t + op < vg) = false := by simpa using hlv
                  have h2 := hid (hst3.out.2 (by omega))
                  clear hst3
                  go_upto_region 12 with (go_quiet (fail))
                  have ed : Ext wr (wr.drewN nq).drew := inferInstance
                  refine wp_region_held_drew (S := fun w' => Ext wr w' ∧ w'.cell? ⟨w.heap.size, 0, none⟩ = some (.slice (some ⟨b5, o5, none⟩) M.length c1) ∧ w'.cell? ⟨w.heap.size, 1, none⟩ = some (.slice (some ⟨b7, o7, none⟩) S.length c2) ∧ w'.cell? ⟨b3, o3 + k, none⟩ = some (.int .i64 r) ∧ w'.cell? ⟨b5, o5 + a, none⟩ = some (.slice (some ⟨b6, o6, none⟩) M.length m5) ∧ w'.cell? ⟨b6, o6 + t, none⟩ = some (.int .i64 (cell M a t)) ∧ w'.cell? ⟨b7, o7 + r, none⟩ = some (.slice (some ⟨b8, o8, none⟩) M.length m7) ∧ w'.cell? ⟨b8, o8 + t, none⟩ = some (.int .i64 (cell S r t))) (by kernel_rfl) ⟨ed, ed.cell y0, ed.cell y1, ed.cell z3, ed.cell hc5, ed.cell hc6', ed.cell hc7, ed.cell hc8'⟩ (fun hHeld0 => ?_)
                  refine wpAnyH_take (i := 0) (v := .pointer (some ⟨w.heap.size, 0, none⟩)) rfl (by kernel_rfl) (by kernel_rfl) (by kernel_rfl) (fun _ _ _ h => h) (Or.inl ⟨by rfl, by intro wx hx; go_simp⟩) (by assumption) ?_
                  try simp only [List.getElem_toArray, List.getElem_cons_zero, Act.put, List.setIfInBounds_toArray, List.set_cons_zero, List.set_cons_succ]
                  refine wpAnyH_take (i := 1) (v := .slice (some ⟨b5, o5, none⟩) M.length c1) rfl (by kernel_rfl) (by kernel_rfl) (by kernel_rfl) (fun _ _ _ h => h) (Or.inl ⟨by rfl, by intro wx hx; obtain ⟨_, _, _, _, _, _, _, _⟩ := hx; go_simp⟩) (by assumption) ?_
                  try simp only [List.getElem_toArray, List.getElem_cons_succ, List.getElem_cons_zero, Act.put, List.setIfInBounds_toArray, List.set_cons_zero, List.set_cons_succ]
                  refine wpAnyH_take (i := 2) (v := .int .i64 a) rfl (by kernel_rfl) (by kernel_rfl) (by kernel_rfl) (fun _ _ _ h => h) (Or.inl ⟨by rfl, by intro wx hx; go_simp⟩) (by assumption) ?_
                  try simp only [List.getElem_toArray, List.getElem_cons_succ, List.getElem_cons_zero, Act.put, List.setIfInBounds_toArray, List.set_cons_zero, List.set_cons_succ]
                  refine wpAnyH_take (i := 3) (v := .pointer (some ⟨b5, o5 + a, none⟩)) rfl (by kernel_rfl) (by kernel_rfl) (by kernel_rfl) (fun _ _ _ h => h) (Or.inl ⟨by rfl, by intro wx hx; go_simp⟩) (by assumption) ?_
                  try simp only [List.getElem_toArray, List.getElem_cons_succ, List.getElem_cons_zero, Act.put, List.setIfInBounds_toArray, List.set_cons_zero, List.set_cons_succ]
                  refine wpAnyH_take (i := 4) (v := .slice (some ⟨b6, o6, none⟩) M.length m5) rfl (by kernel_rfl) (by kernel_rfl) (by kernel_rfl) (fun _ _ _ h => h) (Or.inl ⟨by rfl, by intro wx hx; obtain ⟨_, _, _, _, _, _, _, _⟩ := hx; go_simp⟩) (by assumption) ?_
                  try simp only [List.getElem_toArray, List.getElem_cons_succ, List.getElem_cons_zero, Act.put, List.setIfInBounds_toArray, List.set_cons_zero, List.set_cons_succ]
                  refine wpAnyH_take (i := 5) (v := .int .i64 t) rfl (by kernel_rfl) (by kernel_rfl) (by kernel_rfl) (fun _ _ _ h => h) (Or.inl ⟨by rfl, by intro wx hx; go_simp⟩) (by assumption) ?_
                  try simp only [List.getElem_toArray, List.getElem_cons_succ, List.getElem_cons_zero, Act.put, List.setIfInBounds_toArray, List.set_cons_zero, List.set_cons_succ]
                  refine wpAnyH_take (i := 6) (v := .pointer (some ⟨b6, o6 + t, none⟩)) rfl (by kernel_rfl) (by kernel_rfl) (by kernel_rfl) (fun _ _ _ h => h) (Or.inl ⟨by rfl, by intro wx hx; go_simp⟩) (by assumption) ?_
                  try simp only [List.getElem_toArray, List.getElem_cons_succ, List.getElem_cons_zero, Act.put, List.setIfInBounds_toArray, List.set_cons_zero, List.set_cons_succ]
                  refine wpAnyH_take (i := 7) (v := .int .i64 (cell M a t)) rfl (by kernel_rfl) (by kernel_rfl) (by kernel_rfl) (fun _ _ _ h => h) (Or.inl ⟨by rfl, by intro wx hx; obtain ⟨_, _, _, _, _, _, _, _⟩ := hx; go_simp⟩) (by assumption) ?_
                  try simp only [List.getElem_toArray, List.getElem_cons_succ, List.getElem_cons_zero, Act.put, List.setIfInBounds_toArray, List.set_cons_zero, List.set_cons_succ]
                  refine wpAnyH_take (i := 8) (v := .pointer (some ⟨w.heap.size, 1, none⟩)) rfl (by kernel_rfl) (by kernel_rfl) (by kernel_rfl) (fun _ _ _ h => h) (Or.inl ⟨by rfl, by intro wx hx; go_simp⟩) (by assumption) ?_
                  try simp only [List.getElem_toArray, List.getElem_cons_succ, List.getElem_cons_zero, Act.put, List.setIfInBounds_toArray, List.set_cons_zero, List.set_cons_succ]
                  refine wpAnyH_take (i := 9) (v := .slice (some ⟨b7, o7, none⟩) S.length c2) rfl (by kernel_rfl) (by kernel_rfl) (by kernel_rfl) (fun _ _ _ h => h) (Or.inl ⟨by rfl, by intro wx hx; obtain ⟨_, _, _, _, _, _, _, _⟩ := hx; go_simp⟩) (by assumption) ?_
                  try simp only [List.getElem_toArray, List.getElem_cons_succ, List.getElem_cons_zero, Act.put, List.setIfInBounds_toArray, List.set_cons_zero, List.set_cons_succ]
                  refine wpAnyH_take (i := 10) (v := .slice (some ⟨b3, o3, none⟩) X.length cX) rfl (by kernel_rfl) (by kernel_rfl) (by kernel_rfl) (fun _ _ _ h => h) (Or.inl ⟨by rfl, by intro wx hx; go_simp⟩) (by assumption) ?_
                  try simp only [List.getElem_toArray, List.getElem_cons_succ, List.getElem_cons_zero, Act.put, List.setIfInBounds_toArray, List.set_cons_zero, List.set_cons_succ]
                  refine wpAnyH_take (i := 11) (v := .int .i64 k) rfl (by kernel_rfl) (by kernel_rfl) (by kernel_rfl) (fun _ _ _ h => h) (Or.inl ⟨by rfl, by intro wx hx; go_simp⟩) (by assumption) ?_
                  try simp only [List.getElem_toArray, List.getElem_cons_succ, List.getElem_cons_zero, Act.put, List.setIfInBounds_toArray, List.set_cons_zero, List.set_cons_succ]
                  refine wpAnyH_take (i := 12) (v := .pointer (some ⟨b3, o3 + k, none⟩)) rfl (by kernel_rfl) (by kernel_rfl) (by kernel_rfl) (fun _ _ _ h => h) (Or.inl ⟨by rfl, by intro wx hx; go_simp⟩) (by assumption) ?_
                  try simp only [List.getElem_toArray, List.getElem_cons_succ, List.getElem_cons_zero, Act.put, List.setIfInBounds_toArray, List.set_cons_zero, List.set_cons_succ]
                  refine wpAnyH_take (i := 13) (v := .int .i64 r) rfl (by kernel_rfl) (by kernel_rfl) (by kernel_rfl) (fun _ _ _ h => h) (Or.inl ⟨by rfl, by intro wx hx; obtain ⟨_, _, _, _, _, _, _, _⟩ := hx; go_simp⟩) (by assumption) ?_
                  try simp only [List.getElem_toArray, List.getElem_cons_succ, List.getElem_cons_zero, Act.put, List.setIfInBounds_toArray, List.set_cons_zero, List.set_cons_succ]
                  refine wpAnyH_take (i := 14) (v := .pointer (some ⟨b7, o7 + r, none⟩)) rfl (by kernel_rfl) (by kernel_rfl) (by kernel_rfl) (fun _ _ _ h => h) (Or.inl ⟨by rfl, by intro wx hx; go_simp⟩) (by assumption) ?_
                  try simp only [List.getElem_toArray, List.getElem_cons_succ, List.getElem_cons_zero, Act.put, List.setIfInBounds_toArray, List.set_cons_zero, List.set_cons_succ]
                  refine wpAnyH_take (i := 15) (v := .slice (some ⟨b8, o8, none⟩) M.length m7) rfl (by kernel_rfl) (by kernel_rfl) (by kernel_rfl) (fun _ _ _ h => h) (Or.inl ⟨by rfl, by intro wx hx; obtain ⟨_, _, _, _, _, _, _, _⟩ := hx; go_simp⟩) (by assumption) ?_
                  try simp only [List.getElem_toArray, List.getElem_cons_succ, List.getElem_cons_zero, Act.put, List.setIfInBounds_toArray, List.set_cons_zero, List.set_cons_succ]
                  refine wpAnyH_take (i := 16) (v := .int .i64 t) rfl (by kernel_rfl) (by kernel_rfl) (by kernel_rfl) (fun _ _ _ h => h) (Or.inl ⟨by rfl, by intro wx hx; go_simp⟩) (by assumption) ?_
                  try simp only [List.getElem_toArray, List.getElem_cons_succ, List.getElem_cons_zero, Act.put, List.setIfInBounds_toArray, List.set_cons_zero, List.set_cons_succ]
                  refine wpAnyH_take (i := 17) (v := .pointer (some ⟨b8, o8 + t, none⟩)) rfl (by kernel_rfl) (by kernel_rfl) (by kernel_rfl) (fun _ _ _ h => h) (Or.inl ⟨by rfl, by intro wx hx; go_simp⟩) (by assumption) ?_
                  try simp only [List.getElem_toArray, List.getElem_cons_succ, List.getElem_cons_zero, Act.put, List.setIfInBounds_toArray, List.set_cons_zero, List.set_cons_succ]
                  refine wpAnyH_take (i := 18) (v := .int .i64 (cell S r t)) rfl (by kernel_rfl) (by kernel_rfl) (by kernel_rfl) (fun _ _ _ h => h) (Or.inl ⟨by rfl, by intro wx hx; obtain ⟨_, _, _, _, _, _, _, _⟩ := hx; go_simp⟩) (by assumption) ?_
                  try simp only [List.getElem_toArray, List.getElem_cons_succ, List.getElem_cons_zero, Act.put, List.setIfInBounds_toArray, List.set_cons_zero, List.set_cons_succ]
                  refine wpAnyH_take (i := 19) (v := .int .i64 (cell M a t + cell S r t)) rfl (by kernel_rfl) (by kernel_rfl) (by kernel_rfl) (fun _ _ _ h => h) (Or.inl ⟨by rfl, by intro wx hx; go_simp; exact IntWalk.i64_in _ (by omega)⟩) (by assumption) ?_
                  try simp only [List.getElem_toArray, List.getElem_cons_succ, List.getElem_cons_zero, Act.put, List.setIfInBounds_toArray, List.set_cons_zero, List.set_cons_succ]
                  refine wpAnyH_take (i := 20) (v := .agg #[.slice (some ⟨b5, o5, none⟩) M.length c1, .slice (some ⟨b7, o7, none⟩) S.length c2]) rfl (by kernel_rfl) (by kernel_rfl) (by kernel_rfl) (fun _ _ _ h => h) (Or.inl ⟨by rfl, by intro wx hx; obtain ⟨_, _, _, _, _, _, _, _⟩ := hx; go_simp⟩) (by assumption) ?_
                  try simp only [List.getElem_toArray, List.getElem_cons_succ, List.getElem_cons_zero, Act.put, List.setIfInBounds_toArray, List.set_cons_zero, List.set_cons_succ]
                  refine wpAnyH_take (i := 21) (v := .int .i64 t) rfl (by kernel_rfl) (by kernel_rfl) (by kernel_rfl) (fun _ _ _ h => h) (Or.inl ⟨by rfl, by intro wx hx; go_simp⟩) (by assumption) ?_
                  try simp only [List.getElem_toArray, List.getElem_cons_succ, List.getElem_cons_zero, Act.put, List.setIfInBounds_toArray, List.set_cons_zero, List.set_cons_succ]
                  refine wpAnyH_take (i := 22) (v := .slice (some ⟨b3, o3, none⟩) X.length cX) rfl (by kernel_rfl) (by kernel_rfl) (by kernel_rfl) (fun _ _ _ h => h) (Or.inl ⟨by rfl, by intro wx hx; go_simp⟩) (by assumption) ?_
                  try simp only [List.getElem_toArray, List.getElem_cons_succ, List.getElem_cons_zero, Act.put, List.setIfInBounds_toArray, List.set_cons_zero, List.set_cons_succ]
                  refine wpAnyH_take (i := 23) (v := .int .i64 k) rfl (by kernel_rfl) (by kernel_rfl) (by kernel_rfl) (fun _ _ _ h => h) (Or.inl ⟨by rfl, by intro wx hx; go_simp⟩) (by assumption) ?_
                  try simp only [List.getElem_toArray, List.getElem_cons_succ, List.getElem_cons_zero, Act.put, List.setIfInBounds_toArray, List.set_cons_zero, List.set_cons_succ]
                  refine wpAnyH_take (i := 24) (v := .int .i64 ((k : Int) + 1)) rfl (by kernel_rfl) (by kernel_rfl) (by kernel_rfl) (fun _ _ _ h => h) (Or.inl ⟨by rfl, by intro wx hx; go_simp; exact IntWalk.i64_in _ (by have := hxl.out; omega)⟩) (by assumption) ?_
                  try simp only [List.getElem_toArray, List.getElem_cons_succ, List.getElem_cons_zero, Act.put, List.setIfInBounds_toArray, List.set_cons_zero, List.set_cons_succ]
                  refine wpAnyH_take (i := 25) (v := .slice ad D.length (cX - (k + 1))) rfl (by kernel_rfl) (by kernel_rfl) (by kernel_rfl) (fun _ _ _ h => h) (Or.inl ⟨by rfl, by intro wx hx; go_simp; rw [if_pos (by omega), hDl.out, hAd.out]⟩) (by assumption) ?_
                  try simp only [List.getElem_toArray, List.getElem_cons_succ, List.getElem_cons_zero, Act.put, List.setIfInBounds_toArray, List.set_cons_zero, List.set_cons_succ]
                  refine wpAnyH_ready (rs := [26]) (by kernel_rfl) (by simp) ?_
                  refine AllReadyH.cons rfl (fun K hK => ?_) AllReadyH.nil
                  go_simp
                  go_at_call 48
                  refine (l8Opt_any (w0 := wr) (hM'.ext (w' := wr)) (hS'.ext (w' := wr)) (hxd.ext (w' := wr)) hstt.out).mono ?_
                  rw [Int.toNat_natCast, hop.out]
                  rintro e w2 ⟨rfl, hb2⟩
                  go_wp2_with fail
                  have er1 : Ext wr w2 := Ext.trans ed hb2
                  refine hK.out _ _ ⟨er1, er1.cell y0, er1.cell y1, er1.cell z3, er1.cell hc5, er1.cell hc6', er1.cell hc7, er1.cell hc8'⟩ (fun hHeld1 => ?_)
                  clear hK K hHeld0
                  try simp only [List.getElem_toArray, List.getElem_cons_succ, List.getElem_cons_zero, Act.put, List.setIfInBounds_toArray, List.set_cons_zero, List.set_cons_succ]
                  refine wpAnyH_take (i := 27) (v := .int .i64 (cell M a t + cell S r t + op)) rfl (by kernel_rfl) (by kernel_rfl) (by kernel_rfl) (fun _ _ _ h => h) (Or.inl ⟨by rfl, by intro wx hx; go_simp; exact IntWalk.i64_in _ (by omega)⟩) (by assumption) ?_
                  try simp only [List.getElem_toArray, List.getElem_cons_succ, List.getElem_cons_zero, Act.put, List.setIfInBounds_toArray, List.set_cons_zero, List.set_cons_succ]
                  refine wpAnyH_take (i := 28) (v := .int .i64 (cell M a t + cell S r t + op)) rfl (by kernel_rfl) (by kernel_rfl) (by kernel_rfl) (fun _ _ _ h => h) (Or.inl ⟨by rfl, by intro wx hx; go_simp⟩) (by assumption) ?_
                  try simp only [List.getElem_toArray, List.getElem_cons_succ, List.getElem_cons_zero, Act.put, List.setIfInBounds_toArray, List.set_cons_zero, List.set_cons_succ]
                  refine wpAnyH_done (by kernel_rfl) ?_ _
                  go_wp2_with fail
                  go_roundw
                  case rel => exact ⟨t + 1, by omega, by go_num, by rw [hf2.out, h2.out.1], by rw [hf2.out, h2.out.2], Ext.trans hd er1⟩
                  case measure => simp [intOf]; omega
            · have hge' : decide (cell S r t < 0) = true := by simp; omega
              have hf2 := hid (hfold.out.trans (if_neg hge))
              clear hfold
              go_wp2_with (go_quiet (fail))
              go_roundw
              case rel => exact ⟨t + 1, by omega, by go_num, by rw [hf2.out], by rw [hf2.out], Ext.trans hd inferInstance⟩
              case measure => simp [intOf]; omega
          · have htl : t = (row S r).length := by rw [hrow.out]; omega
            have hres := hid (show argP ((servedTo (row S r) t).foldl (argStep (bestC M S a r D)) (-1)) = bsAt M S s X (k + 1) by
              rw [htl, hs1.out]
              have := hin.out.1
              unfold argP
              exact if_neg (by unfold servedL at this; omega))
            rw [hres.out]
            clear htl hfold
            have hown2 := hown.ext (w' := wr)
            have hb4 : Below w1.heap.size W wr := hb0.trans (hd.below.mono eo.size)
            have hB4 : w1.heap.size ≤ wr.heap.size := Nat.le_trans eo.size hd.size
            have hO60 : O.length ≤ 60 := by have := hlen.out; have := hxl.out; omega
            go_wp2_with (at_builtin; refine wpList_append1 rfl _ _ _ rfl elemInt rfl hown2 hB4 rfl rfl (by omega) (by omega) ?_; intro v1 w3 ho hb5)
            go_roundw
            case rel => exact ⟨k + 1, by omega, by go_num, rfl, by rw [hsucc.out]; exact own_snoc ho rfl, hb4.trans hb5⟩
            case measure => simp [intOf]; omega
      · have hkl : k = X.length := by omega
        have hi := hid (bsTo_i64 hst.out (k := X.length) (Nat.le_refl _) (by have := hn.out; omega))
        subst hkl
        go_wp2
        go_ret2
        rw [hv0.out]
        exact ⟨_, _, rfl, hown.reads (by rw [bsTo_length]; unfold Short; omega) hi.out, ewo⟩

end Go.Proofs.Ytkniohcmhdgbeaa
