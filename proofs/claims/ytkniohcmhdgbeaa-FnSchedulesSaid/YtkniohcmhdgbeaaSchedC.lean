/- ScheduleCost of the program. -/
import Derived.Test.YtkniohcmhdgbeaaSchedB
import Derived.Deep.RegionHeld3
import Derived.IntWalk
namespace Go.Proofs.Ytkniohcmhdgbeaa
open Go.RowKit

set_option maxHeartbeats 1600000 in
set_option maxRecDepth 100000 in
theorem implSched_any {v v3 v4 : Value} {M S : List (List Int)} {start : Int} {reqs states : List Int} {w0 w : World} [Ext w0 w] (hp : IsProb w0 v M S) (_h : I64 start) (hx : IsInts w0 v3 reqs) (hy : IsInts w0 v4 states) :
    Calls Try.prog 15 #[v, .int .i64 start, v3, v4] w fun e w' => e = .returned (.tuple #[.int .i64 (schedR M S start reqs states), .bool (schedB M S start reqs states)]) ∧ Ext w w' := by
  have hp' := hp
  have hx' := hx
  have hy' := hy
  obtain ⟨v1, v2, rfl, hM, hS⟩ := hp
  have hM' := hM
  have hS' := hS
  obtain ⟨a1, c1, rfl, l1⟩ := hM.form
  obtain ⟨a2, c2, rfl, l2⟩ := hS.form
  obtain ⟨a3, c3, rfl, l3⟩ := hx.form
  obtain ⟨a4, c4, rfl, l4⟩ := hy.form
  cases hB : startB M S start reqs with
  | false =>
    have hr := hid (schedB_start (states := states) hB)
    replace hB := hid hB
    go_enter Try.func15, Try.ntmps15
    go_wp2_with fail
    refine (isStarted_any (w0 := w0) hp' hx').mono ?_; rw [hB.out]; rintro e w1 ⟨rfl, hb1⟩
    go_wp2_with fail
    go_ret2
    exact ⟨ret_ib (schedR_false hr.out).symm hr.out.symm, Ext.trans inferInstance hb1⟩
  | true =>
    by_cases hl : states.length = reqs.length
    · have hl' : ((states.length : Int) != reqs.length) = false := by simp [hl]
      have hB' := hid hB
      replace hB := hid hB
      replace hl := hid hl
      have hp3 := hid (startB_prob hB.out)
      have hsum0 := hid (show sumTo M S start reqs states 0 = 0 from rfl)
      go_enter Try.func15, Try.ntmps15
      go_wp2_with fail
      refine (isStarted_any (w0 := w0) hp' hx').mono ?_; rw [hB.out]; rintro e w1 ⟨rfl, hb1⟩
      have x0 : w1.cell? ⟨w.heap.size, 0, none⟩ = some (.slice a1 M.length c1) := hb1.cell (by go_simp)
      have x1 : w1.cell? ⟨w.heap.size, 1, none⟩ = some (.slice a2 S.length c2) := hb1.cell (by go_simp)
      have e1 : Ext w w1 := Ext.trans inferInstance hb1
      clear hb1
      go_wp2_with fail
      go_loopw [1, 10, 27] (fun q p i wr => ∃ k : Nat, k ≤ states.length ∧ i = .int .i64 k ∧ q = .int .i64 (atOf start states k) ∧ p = .int .i64 (sumTo M S start reqs states k) ∧ Hid (okTo M S reqs states k) ∧ Ext w1 wr) (fun _ _ i _ => states.length - (intOf i).toNat)
      case atStart => exact ⟨0, by omega, rfl, rfl, rfl, by intro r hr; omega, Ext.refl _⟩
      case round =>
        obtain ⟨k, hk, rfl, rfl, rfl, hok, hd⟩ := hrel
        have y0 := hd.cell x0
        have y1 := hd.cell x1
        have e2 : Ext w wr := Ext.trans e1 hd
        have e0 : Ext w0 wr := Ext.trans ‹Ext w0 w› e2
        by_cases hlt : k < states.length
        · have hltr : k < reqs.length := by have := hl.out; omega
          obtain ⟨b4, o4, rfl, hc4⟩ := hy.at (w' := wr) hlt
          obtain ⟨b3, o3, rfl, hc3⟩ := hx.at (w' := wr) hltr
          have hrq := startB_req hB.out hltr
          obtain ⟨r, hr'⟩ := Int.eq_ofNat_of_zero_le hrq.1
          have hrn : r < S.length := by have := hrq.2; omega
          clear hrq
          have hrow := hid (probB_row hp3.out hrn).1
          rw [hr'] at hc3
          replace hr' := hid hr'
          cases hin : inB (nth states k) 0 (M.length - 1) with
          | false =>
            have hfin := hid (schedB_at (M := M) (S := S) (start := start) (reqs := reqs) hlt (by rw [stOk, hin]; rfl))
            replace hin := hid hin
            go_upto_region 7 with fail
            have ed : Ext wr wr.drew := inferInstance
            refine wp_region_held_drew (S := fun w' => Ext wr w' ∧ w'.cell? ⟨w.heap.size, 0, none⟩ = some (.slice a1 M.length c1) ∧ w'.cell? ⟨w.heap.size, 1, none⟩ = some (.slice a2 S.length c2)) (by kernel_rfl) ⟨ed, ed.cell y0, ed.cell y1⟩ (fun hHeld => ?_)
            refine wpAnyH_take (i := 0) (v := .agg #[.slice a1 M.length c1, .slice a2 S.length c2]) rfl (by kernel_rfl) (by kernel_rfl) (by kernel_rfl) (fun _ _ _ h => h) (Or.inl ⟨by rfl, by intro wx hx; obtain ⟨_, _, _⟩ := hx; go_simp⟩) (by assumption) ?_
            try simp only [List.getElem_toArray, List.getElem_cons_zero, Act.put, List.setIfInBounds_toArray, List.set_cons_zero, List.set_cons_succ]
            refine wpAnyH_take (i := 1) (v := .int .i64 (nth states k)) rfl (by kernel_rfl) (by kernel_rfl) (by kernel_rfl) (fun _ _ _ h => h) (Or.inl ⟨by rfl, by intro wx hx; go_simp⟩) (by assumption) ?_
            try simp only [List.getElem_toArray, List.getElem_cons_succ, List.getElem_cons_zero, Act.put, List.setIfInBounds_toArray, List.set_cons_zero, List.set_cons_succ]
            refine wpAnyH_ready (rs := [2]) (by kernel_rfl) (by simp) ?_
            refine AllReadyH.cons rfl (fun K hK => ?_) AllReadyH.nil
            go_simp
            go_at_call 51
            refine (isState_any hM hS).mono ?_; rw [hin.out]; rintro e w2 ⟨rfl, hb2⟩
            go_wp2_with fail
            have eb : Ext wr w2 := Ext.trans ed hb2
            refine hK.out _ _ ⟨eb, eb.cell y0, eb.cell y1⟩ (fun hHeld2 => ?_)
            clear hK K hHeld
            try simp only [List.getElem_toArray, List.getElem_cons_succ, List.getElem_cons_zero, Act.put, List.setIfInBounds_toArray, List.set_cons_zero, List.set_cons_succ]
            refine wpAnyH_take (i := 3) (v := .bool true) rfl (by kernel_rfl) (by kernel_rfl) (by kernel_rfl) (fun _ _ _ h => h) (Or.inl ⟨by rfl, by intro wx hx; go_simp⟩) (by assumption) ?_
            try simp only [List.getElem_toArray, List.getElem_cons_succ, List.getElem_cons_zero, Act.put, List.setIfInBounds_toArray, List.set_cons_zero, List.set_cons_succ]
            refine wpAnyH_take (i := 4) (v := .bool true) rfl (by kernel_rfl) (by kernel_rfl) (by kernel_rfl) (fun _ _ _ h => h) (Or.inl ⟨by rfl, by intro wx hx; go_simp⟩) (by assumption) ?_
            try simp only [List.getElem_toArray, List.getElem_cons_succ, List.getElem_cons_zero, Act.put, List.setIfInBounds_toArray, List.set_cons_zero, List.set_cons_succ]
            refine wpAnyH_take (i := 5) (v := undef) rfl (by kernel_rfl) (by kernel_rfl) (by kernel_rfl) (fun _ _ _ h => h) (Or.inr ⟨by kernel_rfl, rfl⟩) (by assumption) ?_
            try simp only [List.getElem_toArray, List.getElem_cons_succ, List.getElem_cons_zero, Act.put, List.setIfInBounds_toArray, List.set_cons_zero, List.set_cons_succ]
            refine wpAnyH_take (i := 6) (v := undef) rfl (by kernel_rfl) (by kernel_rfl) (by kernel_rfl) (fun _ _ _ h => h) (Or.inr ⟨by kernel_rfl, rfl⟩) (by assumption) ?_
            try simp only [List.getElem_toArray, List.getElem_cons_succ, List.getElem_cons_zero, Act.put, List.setIfInBounds_toArray, List.set_cons_zero, List.set_cons_succ]
            refine wpAnyH_take (i := 7) (v := undef) rfl (by kernel_rfl) (by kernel_rfl) (by kernel_rfl) (fun _ _ _ h => h) (Or.inr ⟨by kernel_rfl, rfl⟩) (by assumption) ?_
            try simp only [List.getElem_toArray, List.getElem_cons_succ, List.getElem_cons_zero, Act.put, List.setIfInBounds_toArray, List.set_cons_zero, List.set_cons_succ]
            refine wpAnyH_take (i := 8) (v := undef) rfl (by kernel_rfl) (by kernel_rfl) (by kernel_rfl) (fun _ _ _ h => h) (Or.inr ⟨by kernel_rfl, rfl⟩) (by assumption) ?_
            try simp only [List.getElem_toArray, List.getElem_cons_succ, List.getElem_cons_zero, Act.put, List.setIfInBounds_toArray, List.set_cons_zero, List.set_cons_succ]
            refine wpAnyH_take (i := 9) (v := undef) rfl (by kernel_rfl) (by kernel_rfl) (by kernel_rfl) (fun _ _ _ h => h) (Or.inr ⟨by kernel_rfl, rfl⟩) (by assumption) ?_
            try simp only [List.getElem_toArray, List.getElem_cons_succ, List.getElem_cons_zero, Act.put, List.setIfInBounds_toArray, List.set_cons_zero, List.set_cons_succ]
            refine wpAnyH_take (i := 10) (v := undef) rfl (by kernel_rfl) (by kernel_rfl) (by kernel_rfl) (fun _ _ _ h => h) (Or.inr ⟨by kernel_rfl, rfl⟩) (by assumption) ?_
            try simp only [List.getElem_toArray, List.getElem_cons_succ, List.getElem_cons_zero, Act.put, List.setIfInBounds_toArray, List.set_cons_zero, List.set_cons_succ]
            refine wpAnyH_take (i := 11) (v := undef) rfl (by kernel_rfl) (by kernel_rfl) (by kernel_rfl) (fun _ _ _ h => h) (Or.inr ⟨by kernel_rfl, rfl⟩) (by assumption) ?_
            try simp only [List.getElem_toArray, List.getElem_cons_succ, List.getElem_cons_zero, Act.put, List.setIfInBounds_toArray, List.set_cons_zero, List.set_cons_succ]
            refine wpAnyH_take (i := 12) (v := undef) rfl (by kernel_rfl) (by kernel_rfl) (by kernel_rfl) (fun _ _ _ h => h) (Or.inr ⟨by kernel_rfl, rfl⟩) (by assumption) ?_
            try simp only [List.getElem_toArray, List.getElem_cons_succ, List.getElem_cons_zero, Act.put, List.setIfInBounds_toArray, List.set_cons_zero, List.set_cons_succ]
            refine wpAnyH_take (i := 13) (v := undef) rfl (by kernel_rfl) (by kernel_rfl) (by kernel_rfl) (fun _ _ _ h => h) (Or.inr ⟨by kernel_rfl, rfl⟩) (by assumption) ?_
            try simp only [List.getElem_toArray, List.getElem_cons_succ, List.getElem_cons_zero, Act.put, List.setIfInBounds_toArray, List.set_cons_zero, List.set_cons_succ]
            refine wpAnyH_take (i := 14) (v := undef) rfl (by kernel_rfl) (by kernel_rfl) (by kernel_rfl) (fun _ _ _ h => h) (Or.inr ⟨by kernel_rfl, rfl⟩) (by assumption) ?_
            try simp only [List.getElem_toArray, List.getElem_cons_succ, List.getElem_cons_zero, Act.put, List.setIfInBounds_toArray, List.set_cons_zero, List.set_cons_succ]
            refine wpAnyH_take (i := 15) (v := undef) rfl (by kernel_rfl) (by kernel_rfl) (by kernel_rfl) (fun _ _ _ h => h) (Or.inr ⟨by kernel_rfl, rfl⟩) (by assumption) ?_
            try simp only [List.getElem_toArray, List.getElem_cons_succ, List.getElem_cons_zero, Act.put, List.setIfInBounds_toArray, List.set_cons_zero, List.set_cons_succ]
            refine wpAnyH_take (i := 16) (v := undef) rfl (by kernel_rfl) (by kernel_rfl) (by kernel_rfl) (fun _ _ _ h => h) (Or.inr ⟨by kernel_rfl, rfl⟩) (by assumption) ?_
            try simp only [List.getElem_toArray, List.getElem_cons_succ, List.getElem_cons_zero, Act.put, List.setIfInBounds_toArray, List.set_cons_zero, List.set_cons_succ]
            refine wpAnyH_take (i := 17) (v := .bool true) rfl (by kernel_rfl) (by kernel_rfl) (by kernel_rfl) (fun _ _ _ h => h) (Or.inl ⟨by rfl, by intro wx hx; go_simp⟩) (by assumption) ?_
            try simp only [List.getElem_toArray, List.getElem_cons_succ, List.getElem_cons_zero, Act.put, List.setIfInBounds_toArray, List.set_cons_zero, List.set_cons_succ]
            refine wpAnyH_done (by kernel_rfl) ?_ _
            go_wp2_with fail
            go_ret2
            exact ⟨ret_ib (schedR_false hfin.out).symm hfin.out.symm, Ext.trans e2 eb⟩
          | true =>
            have hst1 := stOk_lt hin
            obtain ⟨s, hs⟩ := Int.eq_ofNat_of_zero_le hst1.1
            have hsn : s < M.length := by have := hst1.2; rw [hs, Int.toNat_natCast] at this; exact this
            obtain ⟨b7, o7, d7, m7, rfl, hc7, hr7, _⟩ := hS.at (w' := wr) hrn
            rw [hrow.out] at hr7 hc7
            obtain ⟨b8, o8, rfl, hc8⟩ := hr7.at (w' := wr) (k := s) (by rw [hrow.out]; exact hsn)
            have hc8' : wr.cell? ⟨b8, o8 + s, none⟩ = some (.int .i64 (cell S r s)) := hc8
            clear hc8
            by_cases hge : 0 ≤ cell S r s
            · have hgood := hid (show stOk M S (nth reqs k).toNat (nth states k) = true by rw [stOk, hin, hs, hr'.out, Int.toNat_natCast, Int.toNat_natCast, decide_eq_true hge]; rfl)
              have hge' : decide (cell S r s < 0) = false := by simpa using hge
              have hb := sumTo_le hB.out hl.out k (by omega) (fun i hi => hok.out i (by omega))
              have h3 := startB_state hB.out
              have ha := atOf_in h3.1 h3.2 (fun i (hi : i < k) => hok.out i (by omega))
              have hca := hid (show (0 : Int) ≤ (r : Int) ∧ (r : Int) < S.length ∧ 0 ≤ atOf start states k ∧ atOf start states k < M.length ∧ (0 : Int) ≤ (s : Int) ∧ (s : Int) < M.length by omega)
              have hc := stepC_le hp3.out hca.out.1 hca.out.2.1 hca.out.2.2.1 hca.out.2.2.2.1 hca.out.2.2.2.2.1 hca.out.2.2.2.2.2
              have hsucc := hid (show sumTo M S start reqs states (k + 1) = sumTo M S start reqs states k + stepC M S r (atOf start states k) s by rw [← hr'.out, ← hs]; rfl)
              have hasucc := hid (show atOf start states (k + 1) = (s : Int) from hs)
              rw [hs] at hin hc4
              replace hin := hid hin
              replace hs := hid hs
              clear ha h3
              generalize atOf start states k = at_ at *
              generalize sumTo M S start reqs states k = sm at *
              go_upto_region 7 with fail
              go_region_held3 (fun w' => Ext wr w' ∧ w'.cell? ⟨w.heap.size, 0, none⟩ = some (.slice a1 M.length c1) ∧ w'.cell? ⟨w.heap.size, 1, none⟩ = some (.slice (some ⟨b7, o7, none⟩) S.length c2) ∧ w'.cell? ⟨b3, o3 + k, none⟩ = some (.int .i64 r) ∧ w'.cell? ⟨b7, o7 + r, none⟩ = some (.slice (some ⟨b8, o8, none⟩) M.length m7) ∧ w'.cell? ⟨b8, o8 + s, none⟩ = some (.int .i64 (cell S r s)))
                (refine ⟨?_, ?_, ?_, ?_, ?_, ?_⟩ <;> first | assumption | infer_instance | exact Ext.trans (by first | assumption | infer_instance) hb2 | exact hb2.cell (by first | assumption | go_simp) | go_keep)
                (first | (go_at_call 51; refine (isState_any hM hS).mono ?_; rw [hin.out]; rintro e w2 ⟨rfl, hb2⟩))
              rename_i hh
              obtain ⟨eb, z0, z1, z2, _, _⟩ := hh
              go_upto_region 9 with fail
              go_region_held3 (fun w' => Ext wr w' ∧ w'.cell? ⟨w.heap.size, 0, none⟩ = some (.slice a1 M.length c1) ∧ w'.cell? ⟨w.heap.size, 1, none⟩ = some (.slice (some ⟨b7, o7, none⟩) S.length c2) ∧ w'.cell? ⟨b3, o3 + k, none⟩ = some (.int .i64 r))
                (refine ⟨?_, ?_, ?_, ?_⟩ <;> first | assumption | infer_instance | exact Ext.trans (by first | assumption | infer_instance) hb3 | exact Ext.trans eb inferInstance | exact hb3.cell (by first | assumption | go_simp) | go_keep)
                (first | (go_at_call 52; refine (cost_any (w0 := wr) (hM'.ext (w' := wr)) (hS'.ext (w' := wr)) hp3.out hca.out.1 hca.out.2.1 hca.out.2.2.1 hca.out.2.2.2.1 hca.out.2.2.2.2.1 hca.out.2.2.2.2.2).mono ?_; rintro e w3 ⟨rfl, hb3⟩))
              rename_i hh
              obtain ⟨ec, _, _, _⟩ := hh
              go_wp2_with fail
              go_roundw
              case rel =>
                refine ⟨k + 1, by omega, by go_num, by rw [hasucc.out], ?_, ?_, Ext.trans hd ec⟩
                · rw [hsucc.out]; exact congrArg (Value.int .i64) (IntWalk.i64_in _ (by clear hd e2 e0; omega))
                · intro q hq
                  by_cases hqk : q = k
                  · subst hqk; exact hgood.out
                  · exact hok.out q (by omega)
              case measure => simp [intOf]; omega
            · have hfin := hid (schedB_at (M := M) (S := S) (start := start) (reqs := reqs) hlt (by rw [stOk, hin, hs, hr'.out, Int.toNat_natCast, Int.toNat_natCast, decide_eq_false hge]; rfl))
              have hge' : decide (cell S r s < 0) = true := by simp; omega
              rw [hs] at hin hc4
              replace hin := hid hin
              replace hs := hid hs
              go_upto_region 7 with fail
              go_region_held3 (fun w' => Ext wr w' ∧ w'.cell? ⟨w.heap.size, 0, none⟩ = some (.slice a1 M.length c1) ∧ w'.cell? ⟨w.heap.size, 1, none⟩ = some (.slice (some ⟨b7, o7, none⟩) S.length c2) ∧ w'.cell? ⟨b3, o3 + k, none⟩ = some (.int .i64 r) ∧ w'.cell? ⟨b7, o7 + r, none⟩ = some (.slice (some ⟨b8, o8, none⟩) M.length m7) ∧ w'.cell? ⟨b8, o8 + s, none⟩ = some (.int .i64 (cell S r s)))
                (refine ⟨?_, ?_, ?_, ?_, ?_, ?_⟩ <;> first | assumption | infer_instance | exact Ext.trans (by first | assumption | infer_instance) hb2 | exact hb2.cell (by first | assumption | go_simp) | go_keep)
                (first | (go_at_call 51; refine (isState_any hM hS).mono ?_; rw [hin.out]; rintro e w2 ⟨rfl, hb2⟩))
              go_wp2_with fail
              go_ret2
              exact ⟨ret_ib (schedR_false hfin.out).symm hfin.out.symm, Ext.trans e2 (Ext.trans inferInstance hb2)⟩
        · have hkl : k = states.length := by omega
          have hfull := hid (hkl ▸ hok.out : okTo M S reqs states states.length)
          have ht := hid (schedB_true hB.out hl.out hfull.out)
          have hv := hid ((schedR_true ht.out).trans (by rw [hkl] : sumTo M S start reqs states states.length = sumTo M S start reqs states k))
          clear hkl
          go_wp2_with fail
          go_ret2
          exact ⟨ret_ib hv.out.symm ht.out.symm, e2⟩
    · have hl' : ((states.length : Int) != reqs.length) = true := by simp; omega
      have hr := hid (schedB_len (M := M) (S := S) (start := start) hl)
      replace hB := hid hB
      replace hl := hid hl
      go_enter Try.func15, Try.ntmps15
      go_wp2_with fail
      refine (isStarted_any (w0 := w0) hp' hx').mono ?_; rw [hB.out]; rintro e w1 ⟨rfl, hb1⟩
      go_wp2_with fail
      go_ret2
      exact ⟨ret_ib (schedR_false hr.out).symm hr.out.symm, Ext.trans inferInstance hb1⟩

end Go.Proofs.Ytkniohcmhdgbeaa
