/- A number put to its place in an ascending list, and the different numbers of a list: the reference's. -/
import Derived.Test.YtaphnkgjcmneoaaGreatDoorSrs
import Derived.Test.YtaphnkgjcmneoaaGreatDoorPackA
namespace Go.Proofs.YtaphnkgjcmneoaaGreatDoor
open Go.RowKit

/-- the list itself, or one of one's own -/
def PutOwn (w w' : World) (v u : Value) (L L' : List Int) : Prop := (u = v ∧ L' = L) ∨ Own w' w.heap.size [intRowOf 3 u L']
set_option maxHeartbeats 1600000 in
set_option maxRecDepth 100000 in
theorem l1PutO_any {v : Value} {L : List Int} {x : Int} {w0 w : World} [Ext w0 w] (hL : IsInts w0 v L) (hxi : I64 x) (hl : L.length ≤ 100000) :
    Calls Tryz.prog 86 #[v, .int .i64 x] w fun e w' => ∃ d m, e = .returned (.slice d (putL L x).length m) ∧ IsInts w' (.slice d (putL L x).length m) (putL L x) ∧ PutOwn w w' v (.slice d (putL L x).length m) L (putL L x) ∧ Ext w w' := by
  have hL' := hL
  obtain ⟨da, ma, rfl, la⟩ := hL.form
  obtain ⟨B, hB⟩ : ∃ b, b = w.heap.size := ⟨_, rfl⟩
  have hlw : B ≤ w.heap.size := Nat.le_of_eq hB
  have hEx := hid (show ∀ u, Below B w u → Ext w u from fun u h => ⟨by rw [← hB]; exact h⟩)
  have hall := hid (show ∀ y ∈ putL L x, I64 y from fun y hy => by
    rcases mem_putL.1 hy with e | hy
    · rw [e]; exact hxi
    · obtain ⟨q, hq, rfl⟩ := mem_iff_nth.1 hy
      exact hL'.i64 hq)
  replace hB := hid hB
  go_enter Tryz.func86, Tryz.ntmps86
  go_wp2_with fail
  go_loopw [5] (fun q wr => ∃ k : Nat, k ≤ L.length ∧ q = .int .i64 k ∧ Hid (∀ j, j < k → nth L j < x) ∧ Below B w wr) (fun q _ => L.length - (intOf q).toNat)
  case atStart => exact ⟨0, by omega, rfl, fun j hj => by omega, Below.refl _ _⟩
  case round =>
    obtain ⟨k, hk, rfl, hbe, bq⟩ := hrel
    obtain ⟨wq, rfl⟩ : ∃ y : World, y = wr := ⟨_, rfl⟩
    have ewq : Ext w wq := hEx.out _ bq
    have e0q : Ext w0 wq := Ext.trans ‹Ext w0 w› ewq
    by_cases hlk : k < L.length ∧ nth L k < x
    · obtain ⟨hlk, hle⟩ := hlk
      obtain ⟨bo, oo, hdo, hco⟩ := hL'.at (w' := wq) hlk
      cases hdo
      have hg : decide (k < L.length) = true := decide_eq_true hlk
      have hle' : decide (nth L k < x) = true := decide_eq_true hle
      have hbe2 := hid (show ∀ j, j < k + 1 → nth L j < x from fun j hj => by
        by_cases e : j = k
        · rw [e]; exact hle
        · exact hbe.out j (by omega))
      go_wp2_with (go_quiet (fail))
      go_roundw
      case rel => exact ⟨k + 1, by omega, by go_num, hbe2.out, bq⟩
      case measure => simp [intOf]; omega
    · by_cases hit : k < L.length ∧ nth L k = x
      · obtain ⟨hlk2, he⟩ := hit
        have hstop := hid (putL_hit hlk2 hbe.out he)
        obtain ⟨bo, oo, hdo, hco⟩ := hL'.at (w' := wq) hlk2
        cases hdo
        rw [he] at hco
        have hg : decide (k < L.length) = true := decide_eq_true hlk2
        have hle' : decide (x < x) = false := decide_eq_false (by omega)
        have heq : (x == x) = true := by simp
        have hL3 := hL'.ext (e := e0q)
        replace he := hid he
        replace hlk := hid hlk
        go_wp2_with (go_quiet (fail))
        go_ret
        rw [hstop.out]
        exact ⟨_, _, rfl, hL3, .inl ⟨rfl, rfl⟩, hEx.out _ bq⟩
      · have hcase : (k < L.length ∧ x < nth L k) ∨ k = L.length := by
          by_cases h : k < L.length
          · refine .inl ⟨h, ?_⟩
            have h1 := fun e => hlk ⟨h, e⟩
            have h2 := fun e => hit ⟨h, e⟩
            omega
          · exact .inr (by omega)
        have hstop := hid (putL_ins hk hbe.out (fun h => by
          rcases hcase with h1 | h1
          · exact h1.2
          · omega))
        replace hlk := hid hlk
        replace hit := hid hit
        rcases hcase with ⟨hkl, hxk⟩ | hkl
        · obtain ⟨bo, oo, hdo, hco⟩ := hL'.at (w' := wq) hkl
          cases hdo
          have hg : decide (k < L.length) = true := decide_eq_true hkl
          have hle' : decide (nth L k < x) = false := decide_eq_false (by omega)
          have heq : (nth L k == x) = false := by
            have : nth L k ≠ x := by omega
            simpa using this
          have hkm : k ≠ ma := by have := hL'.cap; omega
          have htkl := hid (show (L.take k).length = k by rw [List.length_take]; omega)
          have hrd := hid (show ∀ z, Below B w z → IsInts z (.slice (some ⟨bo, oo, none⟩) k ma) (L.take k) ∧ IsInts z (.slice (some ⟨bo, oo + k, none⟩) (L.length - k) (ma - k)) (L.drop k) from fun z hz => by
            have h := hL'.ext (e := Ext.trans ‹Ext w0 w› (hEx.out _ hz))
            exact ⟨h.cut hk, h.tailAt hk⟩)
          have hcp := hL'.cap
          go_wp2_with (go_quiet (fail))
          have hk1 : k ≤ ma := by omega
          have hk2 : ¬ ma < k := by omega
          have hk3 : ma ≠ k := by omega
          have hk4 : ¬ L.length < k := by omega
          have hk5 : ¬ ma < L.length := by omega
          refine region_held_from (w0 := wq) (S := fun _ => True) (by kernel_rfl) (fun _ _ => trivial) (fun wd ed hHeld0 => ?_)
          have bd : Below B w wd := bq.trans (ed.below.mono (Nat.le_trans hlw bq.size))
          have ownd : Own wd B [] := Own.nil _ _
          have hlB : B ≤ wd.heap.size := Nat.le_trans hlw bd.size
          refine wpAnyH_take (i := 1) (v := .slice (some ⟨bo, oo, none⟩) L.length ma) rfl (by kernel_rfl) (by kernel_rfl) (by kernel_rfl) (fun _ _ _ h => h) (Or.inl ⟨by rfl, by intro wx hx; go_simp⟩) (by assumption) ?_
          try simp only [List.getElem_toArray, List.getElem_cons_succ, List.getElem_cons_zero, Act.put, List.setIfInBounds_toArray, List.set_cons_zero, List.set_cons_succ]
          refine wpAnyH_take (i := 2) (v := .int .i64 k) rfl (by kernel_rfl) (by kernel_rfl) (by kernel_rfl) (fun _ _ _ h => h) (Or.inl ⟨by rfl, by intro wx hx; go_simp⟩) (by assumption) ?_
          try simp only [List.getElem_toArray, List.getElem_cons_succ, List.getElem_cons_zero, Act.put, List.setIfInBounds_toArray, List.set_cons_zero, List.set_cons_succ]
          refine wpAnyH_take (i := 3) (v := .slice (some ⟨bo, oo, none⟩) k ma) rfl (by kernel_rfl) (by kernel_rfl) (by kernel_rfl) (fun _ _ _ h => h) (Or.inl ⟨by rfl, by intro wx hx; go_simp⟩) (by assumption) ?_
          try simp only [List.getElem_toArray, List.getElem_cons_succ, List.getElem_cons_zero, Act.put, List.setIfInBounds_toArray, List.set_cons_zero, List.set_cons_succ]
          refine wpAnyH_take (i := 5) (v := .int .i64 x) rfl (by kernel_rfl) (by kernel_rfl) (by kernel_rfl) (fun _ _ _ h => h) (Or.inl ⟨by rfl, by intro wx hx; go_simp⟩) (by assumption) ?_
          try simp only [List.getElem_toArray, List.getElem_cons_succ, List.getElem_cons_zero, Act.put, List.setIfInBounds_toArray, List.set_cons_zero, List.set_cons_succ]
          refine wpAnyH_take (i := 8) (v := .slice (some ⟨bo, oo, none⟩) L.length ma) rfl (by kernel_rfl) (by kernel_rfl) (by kernel_rfl) (fun _ _ _ h => h) (Or.inl ⟨by rfl, by intro wx hx; go_simp⟩) (by assumption) ?_
          try simp only [List.getElem_toArray, List.getElem_cons_succ, List.getElem_cons_zero, Act.put, List.setIfInBounds_toArray, List.set_cons_zero, List.set_cons_succ]
          refine wpAnyH_take (i := 9) (v := .int .i64 k) rfl (by kernel_rfl) (by kernel_rfl) (by kernel_rfl) (fun _ _ _ h => h) (Or.inl ⟨by rfl, by intro wx hx; go_simp⟩) (by assumption) ?_
          try simp only [List.getElem_toArray, List.getElem_cons_succ, List.getElem_cons_zero, Act.put, List.setIfInBounds_toArray, List.set_cons_zero, List.set_cons_succ]
          refine wpAnyH_take (i := 10) (v := .slice (some ⟨bo, oo + k, none⟩) (L.length - k) (ma - k)) rfl (by kernel_rfl) (by kernel_rfl) (by kernel_rfl) (fun _ _ _ h => h) (Or.inl ⟨by rfl, by intro wx hx; go_simp⟩) (by assumption) ?_
          try simp only [List.getElem_toArray, List.getElem_cons_succ, List.getElem_cons_zero, Act.put, List.setIfInBounds_toArray, List.set_cons_zero, List.set_cons_succ]
          refine wpAnyH_ready (rs := [0, 6]) (by kernel_rfl) (by simp) ?_
          refine AllReadyH.cons rfl (fun K hK => ?_) (AllReadyH.cons rfl (fun K hK => ?_) AllReadyH.nil)
          · go_simp
            have oE := ownd.lit 3 1 0 #[] hlB (by unfold maxLen; omega) rfl
            have bE : Below B w (wd.alloc (.cells #[] 3)) := bd.alloc hlB _
            refine hK.out _ _ trivial (fun _ => ?_)
            clear hK K
            try simp only [List.getElem_toArray, List.getElem_cons_succ, List.getElem_cons_zero, Act.put, List.setIfInBounds_toArray, List.set_cons_zero, List.set_cons_succ]
            generalize wd.alloc (.cells #[] 3) = wE at *
            generalize wd.heap.size = gE at *
            have hlE : B ≤ wE.heap.size := Nat.le_trans hlw bE.size
            refine wpAnyH_ready (rs := [4, 6]) (by kernel_rfl) (by simp) ?_
            refine AllReadyH.cons rfl (fun K hK => ?_) (AllReadyH.cons rfl (fun K hK => ?_) AllReadyH.nil)
            · refine stp_ints rfl (.tmp 33) (.tmp 36) 24 rfl elemInt rfl oE hlE rfl (hrd.out _ bE).1 (by rw [htkl.out]; omega) ?_
              intro v4 w4 ho4 hb4
              have o4 : Own w4 B (intRowOf 3 v4 (L.take k) :: []) := by
                have h := own_more (xs := []) ho4 rfl
                rwa [List.nil_append] at h
              obtain ⟨d4, n4, m4, hv4, hn4⟩ := own_formN o4
              subst hv4
              have b4 := bE.trans hb4
              have hl4 : B ≤ w4.heap.size := Nat.le_trans hlw b4.size
              refine hK.out _ _ trivial (fun _ => ?_)
              clear hK K
              try simp only [List.getElem_toArray, List.getElem_cons_succ, List.getElem_cons_zero, Act.put, List.setIfInBounds_toArray, List.set_cons_zero, List.set_cons_succ]
              refine wpAnyH_ready (rs := [6]) (by kernel_rfl) (by simp) ?_
              refine AllReadyH.cons rfl (fun K hK => ?_) AllReadyH.nil
              go_simp
              have oL := o4.lit 3 1 1 #[.int .i64 x] hl4 (by unfold maxLen; omega) rfl
              have b6 : Below B w (w4.alloc (.cells #[.int .i64 x] 3)) := b4.alloc hl4 _
              refine hK.out _ _ trivial (fun _ => ?_)
              clear hK K
              try simp only [List.getElem_toArray, List.getElem_cons_succ, List.getElem_cons_zero, Act.put, List.setIfInBounds_toArray, List.set_cons_zero, List.set_cons_succ]
              generalize w4.alloc (.cells #[.int .i64 x] 3) = w6 at *
              generalize w4.heap.size = gl at *
              have o6 := oL.perm (List.Perm.swap _ _ _)
              refine wpAnyH_ready (rs := [7]) (by kernel_rfl) (by simp) ?_
              refine AllReadyH.cons rfl (fun K hK => ?_) AllReadyH.nil
              have c6 : w6.cell? ⟨gl, 0, none⟩ = some (.int .i64 x) := by
                have h := o6.tail.head.cellAt 0 (show 0 < 1 * 1 by omega)
                simpa using h
              refine stp_one rfl (.tmp 37) (.tmp 39) 24 rfl elemInt rfl o6 (Nat.le_trans hlw b6.size) (us := [.int .i64 x]) rfl rfl ?_ (by intro u hu; simp at hu; subst hu; rfl) (by simp; omega) (by simp; omega) ?_
              · intro jj u hj
                match jj, hj with
                | 0, hj => simp at hj; subst hj; exact c6
              intro v7 w7 ho7 hb7
              have o7 := own_grow1 ho7 rfl
              have b7 := b6.trans hb7
              obtain ⟨d7, n7, m7, hv7, hn7⟩ := own_formN o7
              subst hv7
              have r7 := (hrd.out _ b7).2
              refine hK.out _ _ trivial (fun _ => ?_)
              clear hK K
              try simp only [List.getElem_toArray, List.getElem_cons_succ, List.getElem_cons_zero, Act.put, List.setIfInBounds_toArray, List.set_cons_zero, List.set_cons_succ]
              refine wpAnyH_ready (rs := [11]) (by kernel_rfl) (by simp) ?_
              refine AllReadyH.cons rfl (fun K hK => ?_) AllReadyH.nil
              refine stp_ints rfl (.tmp 40) (.tmp 43) 24 rfl elemInt rfl o7 (Nat.le_trans hlw b7.size) rfl r7 (by simp; omega) ?_
              intro v8 w8 ho8 hb8
              have o8 := own_more ho8 rfl
              have b8 := b7.trans hb8
              refine hK.out _ _ trivial (fun _ => ?_)
              clear hK K
              try simp only [List.getElem_toArray, List.getElem_cons_succ, List.getElem_cons_zero, Act.put, List.setIfInBounds_toArray, List.set_cons_zero, List.set_cons_succ]
              refine wpAnyH_take (i := 12) (v := v8) rfl (by kernel_rfl) (by kernel_rfl) (by kernel_rfl) (fun _ _ _ h => h) (Or.inl ⟨by rfl, by intro wx hx; go_simp⟩) (by assumption) ?_
              try simp only [List.getElem_toArray, List.getElem_cons_succ, List.getElem_cons_zero, Act.put, List.setIfInBounds_toArray, List.set_cons_zero, List.set_cons_succ]
              refine wpAnyH_done (by kernel_rfl) ?_ _
              rw [← hstop.out] at o8
              obtain ⟨d8, m8, hv8⟩ := o8.formInts
              subst hv8
              have hr8 := o8.reads (by unfold Short; have := putL_len (x := x) (l := L); omega) hall.out
              go_wp2_with fail
              go_ret
              exact ⟨_, _, rfl, hr8, .inr (by rw [← hB.out]; exact o8.sub (List.Sublist.cons_cons _ (List.nil_sublist _))), hEx.out _ b8⟩
            · have oL := oE.lit 3 1 1 #[.int .i64 x] hlE (by unfold maxLen; omega) rfl
              have b5 : Below B w (wE.alloc (.cells #[.int .i64 x] 3)) := bE.alloc hlE _
              go_simp
              refine hK.out _ _ trivial (fun _ => ?_)
              clear hK K
              try simp only [List.getElem_toArray, List.getElem_cons_succ, List.getElem_cons_zero, Act.put, List.setIfInBounds_toArray, List.set_cons_zero, List.set_cons_succ]
              generalize wE.alloc (.cells #[.int .i64 x] 3) = w5 at *
              generalize wE.heap.size = gl at *
              have o5 := oL.perm (List.Perm.swap _ _ _)
              refine wpAnyH_ready (rs := [4]) (by kernel_rfl) (by simp) ?_
              refine AllReadyH.cons rfl (fun K hK => ?_) AllReadyH.nil
              refine stp_ints rfl (.tmp 33) (.tmp 36) 24 rfl elemInt rfl o5 (Nat.le_trans hlw b5.size) rfl (hrd.out _ b5).1 (by rw [htkl.out]; omega) ?_
              intro v4 w6 ho4 hb4
              have o6 := own_more (xs := []) ho4 rfl
              rw [List.nil_append] at o6
              obtain ⟨d4, n4, m4, hv4, hn4⟩ := own_formN o6
              subst hv4
              have b6 := b5.trans hb4
              refine hK.out _ _ trivial (fun _ => ?_)
              clear hK K
              try simp only [List.getElem_toArray, List.getElem_cons_succ, List.getElem_cons_zero, Act.put, List.setIfInBounds_toArray, List.set_cons_zero, List.set_cons_succ]
              refine wpAnyH_ready (rs := [7]) (by kernel_rfl) (by simp) ?_
              refine AllReadyH.cons rfl (fun K hK => ?_) AllReadyH.nil
              have c6 : w6.cell? ⟨gl, 0, none⟩ = some (.int .i64 x) := by
                have h := o6.tail.head.cellAt 0 (show 0 < 1 * 1 by omega)
                simpa using h
              refine stp_one rfl (.tmp 37) (.tmp 39) 24 rfl elemInt rfl o6 (Nat.le_trans hlw b6.size) (us := [.int .i64 x]) rfl rfl ?_ (by intro u hu; simp at hu; subst hu; rfl) (by simp; omega) (by simp; omega) ?_
              · intro jj u hj
                match jj, hj with
                | 0, hj => simp at hj; subst hj; exact c6
              intro v7 w7 ho7 hb7
              have o7 := own_grow1 ho7 rfl
              have b7 := b6.trans hb7
              obtain ⟨d7, n7, m7, hv7, hn7⟩ := own_formN o7
              subst hv7
              have r7 := (hrd.out _ b7).2
              refine hK.out _ _ trivial (fun _ => ?_)
              clear hK K
              try simp only [List.getElem_toArray, List.getElem_cons_succ, List.getElem_cons_zero, Act.put, List.setIfInBounds_toArray, List.set_cons_zero, List.set_cons_succ]
              refine wpAnyH_ready (rs := [11]) (by kernel_rfl) (by simp) ?_
              refine AllReadyH.cons rfl (fun K hK => ?_) AllReadyH.nil
              refine stp_ints rfl (.tmp 40) (.tmp 43) 24 rfl elemInt rfl o7 (Nat.le_trans hlw b7.size) rfl r7 (by simp; omega) ?_
              intro v8 w8 ho8 hb8
              have o8 := own_more ho8 rfl
              have b8 := b7.trans hb8
              refine hK.out _ _ trivial (fun _ => ?_)
              clear hK K
              try simp only [List.getElem_toArray, List.getElem_cons_succ, List.getElem_cons_zero, Act.put, List.setIfInBounds_toArray, List.set_cons_zero, List.set_cons_succ]
              refine wpAnyH_take (i := 12) (v := v8) rfl (by kernel_rfl) (by kernel_rfl) (by kernel_rfl) (fun _ _ _ h => h) (Or.inl ⟨by rfl, by intro wx hx; go_simp⟩) (by assumption) ?_
              try simp only [List.getElem_toArray, List.getElem_cons_succ, List.getElem_cons_zero, Act.put, List.setIfInBounds_toArray, List.set_cons_zero, List.set_cons_succ]
              refine wpAnyH_done (by kernel_rfl) ?_ _
              rw [← hstop.out] at o8
              obtain ⟨d8, m8, hv8⟩ := o8.formInts
              subst hv8
              have hr8 := o8.reads (by unfold Short; have := putL_len (x := x) (l := L); omega) hall.out
              go_wp2_with fail
              go_ret
              exact ⟨_, _, rfl, hr8, .inr (by rw [← hB.out]; exact o8.sub (List.Sublist.cons_cons _ (List.nil_sublist _))), hEx.out _ b8⟩
          · have oL := ownd.lit 3 1 1 #[.int .i64 x] hlB (by unfold maxLen; omega) rfl
            have bL : Below B w (wd.alloc (.cells #[.int .i64 x] 3)) := bd.alloc hlB _
            go_simp
            refine hK.out _ _ trivial (fun _ => ?_)
            clear hK K
            try simp only [List.getElem_toArray, List.getElem_cons_succ, List.getElem_cons_zero, Act.put, List.setIfInBounds_toArray, List.set_cons_zero, List.set_cons_succ]
            generalize wd.alloc (.cells #[.int .i64 x] 3) = wL at *
            generalize wd.heap.size = gl at *
            have hlL : B ≤ wL.heap.size := Nat.le_trans hlw bL.size
            refine wpAnyH_ready (rs := [0]) (by kernel_rfl) (by simp) ?_
            refine AllReadyH.cons rfl (fun K hK => ?_) AllReadyH.nil
            go_simp
            have o5 := oL.lit 3 1 0 #[] hlL (by unfold maxLen; omega) rfl
            have b5 : Below B w (wL.alloc (.cells #[] 3)) := bL.alloc hlL _
            refine hK.out _ _ trivial (fun _ => ?_)
            clear hK K
            try simp only [List.getElem_toArray, List.getElem_cons_succ, List.getElem_cons_zero, Act.put, List.setIfInBounds_toArray, List.set_cons_zero, List.set_cons_succ]
            generalize wL.alloc (.cells #[] 3) = w5 at *
            generalize wL.heap.size = gE at *
            refine wpAnyH_ready (rs := [4]) (by kernel_rfl) (by simp) ?_
            refine AllReadyH.cons rfl (fun K hK => ?_) AllReadyH.nil
            refine stp_ints rfl (.tmp 33) (.tmp 36) 24 rfl elemInt rfl o5 (Nat.le_trans hlw b5.size) rfl (hrd.out _ b5).1 (by rw [htkl.out]; omega) ?_
            intro v4 w6 ho4 hb4
            have o6 := own_more (xs := []) ho4 rfl
            rw [List.nil_append] at o6
            obtain ⟨d4, n4, m4, hv4, hn4⟩ := own_formN o6
            subst hv4
            have b6 := b5.trans hb4
            refine hK.out _ _ trivial (fun _ => ?_)
            clear hK K
            try simp only [List.getElem_toArray, List.getElem_cons_succ, List.getElem_cons_zero, Act.put, List.setIfInBounds_toArray, List.set_cons_zero, List.set_cons_succ]
            refine wpAnyH_ready (rs := [7]) (by kernel_rfl) (by simp) ?_
            refine AllReadyH.cons rfl (fun K hK => ?_) AllReadyH.nil
            have c6 : w6.cell? ⟨gl, 0, none⟩ = some (.int .i64 x) := by
              have h := o6.tail.head.cellAt 0 (show 0 < 1 * 1 by omega)
              simpa using h
            refine stp_one rfl (.tmp 37) (.tmp 39) 24 rfl elemInt rfl o6 (Nat.le_trans hlw b6.size) (us := [.int .i64 x]) rfl rfl ?_ (by intro u hu; simp at hu; subst hu; rfl) (by simp; omega) (by simp; omega) ?_
            · intro jj u hj
              match jj, hj with
              | 0, hj => simp at hj; subst hj; exact c6
            intro v7 w7 ho7 hb7
            have o7 := own_grow1 ho7 rfl
            have b7 := b6.trans hb7
            obtain ⟨d7, n7, m7, hv7, hn7⟩ := own_formN o7
            subst hv7
            have r7 := (hrd.out _ b7).2
            refine hK.out _ _ trivial (fun _ => ?_)
            clear hK K
            try simp only [List.getElem_toArray, List.getElem_cons_succ, List.getElem_cons_zero, Act.put, List.setIfInBounds_toArray, List.set_cons_zero, List.set_cons_succ]
            refine wpAnyH_ready (rs := [11]) (by kernel_rfl) (by simp) ?_
            refine AllReadyH.cons rfl (fun K hK => ?_) AllReadyH.nil
            refine stp_ints rfl (.tmp 40) (.tmp 43) 24 rfl elemInt rfl o7 (Nat.le_trans hlw b7.size) rfl r7 (by simp; omega) ?_
            intro v8 w8 ho8 hb8
            have o8 := own_more ho8 rfl
            have b8 := b7.trans hb8
            refine hK.out _ _ trivial (fun _ => ?_)
            clear hK K
            try simp only [List.getElem_toArray, List.getElem_cons_succ, List.getElem_cons_zero, Act.put, List.setIfInBounds_toArray, List.set_cons_zero, List.set_cons_succ]
            refine wpAnyH_take (i := 12) (v := v8) rfl (by kernel_rfl) (by kernel_rfl) (by kernel_rfl) (fun _ _ _ h => h) (Or.inl ⟨by rfl, by intro wx hx; go_simp⟩) (by assumption) ?_
            try simp only [List.getElem_toArray, List.getElem_cons_succ, List.getElem_cons_zero, Act.put, List.setIfInBounds_toArray, List.set_cons_zero, List.set_cons_succ]
            refine wpAnyH_done (by kernel_rfl) ?_ _
            rw [← hstop.out] at o8
            obtain ⟨d8, m8, hv8⟩ := o8.formInts
            subst hv8
            have hr8 := o8.reads (by unfold Short; have := putL_len (x := x) (l := L); omega) hall.out
            go_wp2_with fail
            go_ret
            exact ⟨_, _, rfl, hr8, .inr (by rw [← hB.out]; exact o8.sub (List.Sublist.cons_cons _ (List.nil_sublist _))), hEx.out _ b8⟩
        · have hg : decide (k < L.length) = false := decide_eq_false (by omega)
          have hk4 : ¬ L.length < k := by omega
          have hdr := hid (show L.drop k = [] from List.drop_eq_nil_of_le (by omega))
          have hz0 := hid (show L.length - k = 0 by omega)
          have htkl := hid (show (L.take k).length = k by rw [List.length_take]; omega)
          have hcp := hL'.cap
          have hk1 : k ≤ ma := by omega
          have hk2 : ¬ ma < k := by omega
          have hk5 : ¬ ma < L.length := by omega
          by_cases hkm : ma = k
          · subst hkm
            have hrd := hid (show ∀ z, Below B w z → IsInts z (.slice da ma ma) (L.take ma) ∧ IsInts z (.slice da 0 0) (L.drop ma) from fun z hz => by
              have h := hL'.ext (e := Ext.trans ‹Ext w0 w› (hEx.out _ hz))
              refine ⟨h.cut hk, ?_⟩
              rw [hdr.out]
              exact ints_zero _ _ _)
            replace hkl := hid hkl
            go_wp2_with (go_quiet (fail))
            refine region_held_from (w0 := wq) (S := fun _ => True) (by kernel_rfl) (fun _ _ => trivial) (fun wd ed hHeld0 => ?_)
            have bd : Below B w wd := bq.trans (ed.below.mono (Nat.le_trans hlw bq.size))
            have ownd : Own wd B [] := Own.nil _ _
            have hlB : B ≤ wd.heap.size := Nat.le_trans hlw bd.size
            refine wpAnyH_take (i := 1) (v := .slice da L.length ma) rfl (by kernel_rfl) (by kernel_rfl) (by kernel_rfl) (fun _ _ _ h => h) (Or.inl ⟨by rfl, by intro wx hx; go_simp⟩) (by assumption) ?_
            try simp only [List.getElem_toArray, List.getElem_cons_succ, List.getElem_cons_zero, Act.put, List.setIfInBounds_toArray, List.set_cons_zero, List.set_cons_succ]
            refine wpAnyH_take (i := 2) (v := .int .i64 ma) rfl (by kernel_rfl) (by kernel_rfl) (by kernel_rfl) (fun _ _ _ h => h) (Or.inl ⟨by rfl, by intro wx hx; go_simp⟩) (by assumption) ?_
            try simp only [List.getElem_toArray, List.getElem_cons_succ, List.getElem_cons_zero, Act.put, List.setIfInBounds_toArray, List.set_cons_zero, List.set_cons_succ]
            refine wpAnyH_take (i := 3) (v := .slice da ma ma) rfl (by kernel_rfl) (by kernel_rfl) (by kernel_rfl) (fun _ _ _ h => h) (Or.inl ⟨by rfl, by intro wx hx; go_simp⟩) (by assumption) ?_
            try simp only [List.getElem_toArray, List.getElem_cons_succ, List.getElem_cons_zero, Act.put, List.setIfInBounds_toArray, List.set_cons_zero, List.set_cons_succ]
            refine wpAnyH_take (i := 5) (v := .int .i64 x) rfl (by kernel_rfl) (by kernel_rfl) (by kernel_rfl) (fun _ _ _ h => h) (Or.inl ⟨by rfl, by intro wx hx; go_simp⟩) (by assumption) ?_
            try simp only [List.getElem_toArray, List.getElem_cons_succ, List.getElem_cons_zero, Act.put, List.setIfInBounds_toArray, List.set_cons_zero, List.set_cons_succ]
            refine wpAnyH_take (i := 8) (v := .slice da L.length ma) rfl (by kernel_rfl) (by kernel_rfl) (by kernel_rfl) (fun _ _ _ h => h) (Or.inl ⟨by rfl, by intro wx hx; go_simp⟩) (by assumption) ?_
            try simp only [List.getElem_toArray, List.getElem_cons_succ, List.getElem_cons_zero, Act.put, List.setIfInBounds_toArray, List.set_cons_zero, List.set_cons_succ]
            refine wpAnyH_take (i := 9) (v := .int .i64 ma) rfl (by kernel_rfl) (by kernel_rfl) (by kernel_rfl) (fun _ _ _ h => h) (Or.inl ⟨by rfl, by intro wx hx; go_simp⟩) (by assumption) ?_
            try simp only [List.getElem_toArray, List.getElem_cons_succ, List.getElem_cons_zero, Act.put, List.setIfInBounds_toArray, List.set_cons_zero, List.set_cons_succ]
            refine wpAnyH_take (i := 10) (v := .slice da 0 0) rfl (by kernel_rfl) (by kernel_rfl) (by kernel_rfl) (fun _ _ _ h => h) (Or.inl ⟨by rfl, by intro wx hx; go_simp⟩) (by assumption) ?_
            try simp only [List.getElem_toArray, List.getElem_cons_succ, List.getElem_cons_zero, Act.put, List.setIfInBounds_toArray, List.set_cons_zero, List.set_cons_succ]
            refine wpAnyH_ready (rs := [0, 6]) (by kernel_rfl) (by simp) ?_
            refine AllReadyH.cons rfl (fun K hK => ?_) (AllReadyH.cons rfl (fun K hK => ?_) AllReadyH.nil)
            · go_simp
              have oE := ownd.lit 3 1 0 #[] hlB (by unfold maxLen; omega) rfl
              have bE : Below B w (wd.alloc (.cells #[] 3)) := bd.alloc hlB _
              refine hK.out _ _ trivial (fun _ => ?_)
              clear hK K
              try simp only [List.getElem_toArray, List.getElem_cons_succ, List.getElem_cons_zero, Act.put, List.setIfInBounds_toArray, List.set_cons_zero, List.set_cons_succ]
              generalize wd.alloc (.cells #[] 3) = wE at *
              generalize wd.heap.size = gE at *
              have hlE : B ≤ wE.heap.size := Nat.le_trans hlw bE.size
              refine wpAnyH_ready (rs := [4, 6]) (by kernel_rfl) (by simp) ?_
              refine AllReadyH.cons rfl (fun K hK => ?_) (AllReadyH.cons rfl (fun K hK => ?_) AllReadyH.nil)
              · refine stp_ints rfl (.tmp 33) (.tmp 36) 24 rfl elemInt rfl oE hlE rfl (hrd.out _ bE).1 (by rw [htkl.out]; omega) ?_
                intro v4 w4 ho4 hb4
                have o4 : Own w4 B (intRowOf 3 v4 (L.take ma) :: []) := by
                  have h := own_more (xs := []) ho4 rfl
                  rwa [List.nil_append] at h
                obtain ⟨d4, n4, m4, hv4, hn4⟩ := own_formN o4
                subst hv4
                have b4 := bE.trans hb4
                have hl4 : B ≤ w4.heap.size := Nat.le_trans hlw b4.size
                refine hK.out _ _ trivial (fun _ => ?_)
                clear hK K
                try simp only [List.getElem_toArray, List.getElem_cons_succ, List.getElem_cons_zero, Act.put, List.setIfInBounds_toArray, List.set_cons_zero, List.set_cons_succ]
                refine wpAnyH_ready (rs := [6]) (by kernel_rfl) (by simp) ?_
                refine AllReadyH.cons rfl (fun K hK => ?_) AllReadyH.nil
                go_simp
                have oL := o4.lit 3 1 1 #[.int .i64 x] hl4 (by unfold maxLen; omega) rfl
                have b6 : Below B w (w4.alloc (.cells #[.int .i64 x] 3)) := b4.alloc hl4 _
                refine hK.out _ _ trivial (fun _ => ?_)
                clear hK K
                try simp only [List.getElem_toArray, List.getElem_cons_succ, List.getElem_cons_zero, Act.put, List.setIfInBounds_toArray, List.set_cons_zero, List.set_cons_succ]
                generalize w4.alloc (.cells #[.int .i64 x] 3) = w6 at *
                generalize w4.heap.size = gl at *
                have o6 := oL.perm (List.Perm.swap _ _ _)
                refine wpAnyH_ready (rs := [7]) (by kernel_rfl) (by simp) ?_
                refine AllReadyH.cons rfl (fun K hK => ?_) AllReadyH.nil
                have c6 : w6.cell? ⟨gl, 0, none⟩ = some (.int .i64 x) := by
                  have h := o6.tail.head.cellAt 0 (show 0 < 1 * 1 by omega)
                  simpa using h
                refine stp_one rfl (.tmp 37) (.tmp 39) 24 rfl elemInt rfl o6 (Nat.le_trans hlw b6.size) (us := [.int .i64 x]) rfl rfl ?_ (by intro u hu; simp at hu; subst hu; rfl) (by simp; omega) (by simp; omega) ?_
                · intro jj u hj
                  match jj, hj with
                  | 0, hj => simp at hj; subst hj; exact c6
                intro v7 w7 ho7 hb7
                have o7 := own_grow1 ho7 rfl
                have b7 := b6.trans hb7
                obtain ⟨d7, n7, m7, hv7, hn7⟩ := own_formN o7
                subst hv7
                have r7 := (hrd.out _ b7).2
                refine hK.out _ _ trivial (fun _ => ?_)
                clear hK K
                try simp only [List.getElem_toArray, List.getElem_cons_succ, List.getElem_cons_zero, Act.put, List.setIfInBounds_toArray, List.set_cons_zero, List.set_cons_succ]
                refine wpAnyH_ready (rs := [11]) (by kernel_rfl) (by simp) ?_
                refine AllReadyH.cons rfl (fun K hK => ?_) AllReadyH.nil
                refine stp_ints rfl (.tmp 40) (.tmp 43) 24 rfl elemInt rfl o7 (Nat.le_trans hlw b7.size) rfl r7 (by simp; omega) ?_
                intro v8 w8 ho8 hb8
                have o8 := own_more ho8 rfl
                have b8 := b7.trans hb8
                refine hK.out _ _ trivial (fun _ => ?_)
                clear hK K
                try simp only [List.getElem_toArray, List.getElem_cons_succ, List.getElem_cons_zero, Act.put, List.setIfInBounds_toArray, List.set_cons_zero, List.set_cons_succ]
                refine wpAnyH_take (i := 12) (v := v8) rfl (by kernel_rfl) (by kernel_rfl) (by kernel_rfl) (fun _ _ _ h => h) (Or.inl ⟨by rfl, by intro wx hx; go_simp⟩) (by assumption) ?_
                try simp only [List.getElem_toArray, List.getElem_cons_succ, List.getElem_cons_zero, Act.put, List.setIfInBounds_toArray, List.set_cons_zero, List.set_cons_succ]
                refine wpAnyH_done (by kernel_rfl) ?_ _
                rw [← hstop.out] at o8
                obtain ⟨d8, m8, hv8⟩ := o8.formInts
                subst hv8
                have hr8 := o8.reads (by unfold Short; have := putL_len (x := x) (l := L); omega) hall.out
                go_wp2_with fail
                go_ret
                exact ⟨_, _, rfl, hr8, .inr (by rw [← hB.out]; exact o8.sub (List.Sublist.cons_cons _ (List.nil_sublist _))), hEx.out _ b8⟩
              · have oL := oE.lit 3 1 1 #[.int .i64 x] hlE (by unfold maxLen; omega) rfl
                have b5 : Below B w (wE.alloc (.cells #[.int .i64 x] 3)) := bE.alloc hlE _
                go_simp
                refine hK.out _ _ trivial (fun _ => ?_)
                clear hK K
                try simp only [List.getElem_toArray, List.getElem_cons_succ, List.getElem_cons_zero, Act.put, List.setIfInBounds_toArray, List.set_cons_zero, List.set_cons_succ]
                generalize wE.alloc (.cells #[.int .i64 x] 3) = w5 at *
                generalize wE.heap.size = gl at *
                have o5 := oL.perm (List.Perm.swap _ _ _)
                refine wpAnyH_ready (rs := [4]) (by kernel_rfl) (by simp) ?_
                refine AllReadyH.cons rfl (fun K hK => ?_) AllReadyH.nil
                refine stp_ints rfl (.tmp 33) (.tmp 36) 24 rfl elemInt rfl o5 (Nat.le_trans hlw b5.size) rfl (hrd.out _ b5).1 (by rw [htkl.out]; omega) ?_
                intro v4 w6 ho4 hb4
                have o6 := own_more (xs := []) ho4 rfl
                rw [List.nil_append] at o6
                obtain ⟨d4, n4, m4, hv4, hn4⟩ := own_formN o6
                subst hv4
                have b6 := b5.trans hb4
                refine hK.out _ _ trivial (fun _ => ?_)
                clear hK K
                try simp only [List.getElem_toArray, List.getElem_cons_succ, List.getElem_cons_zero, Act.put, List.setIfInBounds_toArray, List.set_cons_zero, List.set_cons_succ]
                refine wpAnyH_ready (rs := [7]) (by kernel_rfl) (by simp) ?_
                refine AllReadyH.cons rfl (fun K hK => ?_) AllReadyH.nil
                have c6 : w6.cell? ⟨gl, 0, none⟩ = some (.int .i64 x) := by
                  have h := o6.tail.head.cellAt 0 (show 0 < 1 * 1 by omega)
                  simpa using h
                refine stp_one rfl (.tmp 37) (.tmp 39) 24 rfl elemInt rfl o6 (Nat.le_trans hlw b6.size) (us := [.int .i64 x]) rfl rfl ?_ (by intro u hu; simp at hu; subst hu; rfl) (by simp; omega) (by simp; omega) ?_
                · intro jj u hj
                  match jj, hj with
                  | 0, hj => simp at hj; subst hj; exact c6
                intro v7 w7 ho7 hb7
                have o7 := own_grow1 ho7 rfl
                have b7 := b6.trans hb7
                obtain ⟨d7, n7, m7, hv7, hn7⟩ := own_formN o7
                subst hv7
                have r7 := (hrd.out _ b7).2
                refine hK.out _ _ trivial (fun _ => ?_)
                clear hK K
                try simp only [List.getElem_toArray, List.getElem_cons_succ, List.getElem_cons_zero, Act.put, List.setIfInBounds_toArray, List.set_cons_zero, List.set_cons_succ]
                refine wpAnyH_ready (rs := [11]) (by kernel_rfl) (by simp) ?_
                refine AllReadyH.cons rfl (fun K hK => ?_) AllReadyH.nil
                refine stp_ints rfl (.tmp 40) (.tmp 43) 24 rfl elemInt rfl o7 (Nat.le_trans hlw b7.size) rfl r7 (by simp; omega) ?_
                intro v8 w8 ho8 hb8
                have o8 := own_more ho8 rfl
                have b8 := b7.trans hb8
                refine hK.out _ _ trivial (fun _ => ?_)
                clear hK K
                try simp only [List.getElem_toArray, List.getElem_cons_succ, List.getElem_cons_zero, Act.put, List.setIfInBounds_toArray, List.set_cons_zero, List.set_cons_succ]
                refine wpAnyH_take (i := 12) (v := v8) rfl (by kernel_rfl) (by kernel_rfl) (by kernel_rfl) (fun _ _ _ h => h) (Or.inl ⟨by rfl, by intro wx hx; go_simp⟩) (by assumption) ?_
                try simp only [List.getElem_toArray, List.getElem_cons_succ, List.getElem_cons_zero, Act.put, List.setIfInBounds_toArray, List.set_cons_zero, List.set_cons_succ]
                refine wpAnyH_done (by kernel_rfl) ?_ _
                rw [← hstop.out] at o8
                obtain ⟨d8, m8, hv8⟩ := o8.formInts
                subst hv8
                have hr8 := o8.reads (by unfold Short; have := putL_len (x := x) (l := L); omega) hall.out
                go_wp2_with fail
                go_ret
                exact ⟨_, _, rfl, hr8, .inr (by rw [← hB.out]; exact o8.sub (List.Sublist.cons_cons _ (List.nil_sublist _))), hEx.out _ b8⟩
            · have oL := ownd.lit 3 1 1 #[.int .i64 x] hlB (by unfold maxLen; omega) rfl
              have bL : Below B w (wd.alloc (.cells #[.int .i64 x] 3)) := bd.alloc hlB _
              go_simp
              refine hK.out _ _ trivial (fun _ => ?_)
              clear hK K
              try simp only [List.getElem_toArray, List.getElem_cons_succ, List.getElem_cons_zero, Act.put, List.setIfInBounds_toArray, List.set_cons_zero, List.set_cons_succ]
              generalize wd.alloc (.cells #[.int .i64 x] 3) = wL at *
              generalize wd.heap.size = gl at *
              have hlL : B ≤ wL.heap.size := Nat.le_trans hlw bL.size
              refine wpAnyH_ready (rs := [0]) (by kernel_rfl) (by simp) ?_
              refine AllReadyH.cons rfl (fun K hK => ?_) AllReadyH.nil
              go_simp
              have o5 := oL.lit 3 1 0 #[] hlL (by unfold maxLen; omega) rfl
              have b5 : Below B w (wL.alloc (.cells #[] 3)) := bL.alloc hlL _
              refine hK.out _ _ trivial (fun _ => ?_)
              clear hK K
              try simp only [List.getElem_toArray, List.getElem_cons_succ, List.getElem_cons_zero, Act.put, List.setIfInBounds_toArray, List.set_cons_zero, List.set_cons_succ]
              generalize wL.alloc (.cells #[] 3) = w5 at *
              generalize wL.heap.size = gE at *
              refine wpAnyH_ready (rs := [4]) (by kernel_rfl) (by simp) ?_
              refine AllReadyH.cons rfl (fun K hK => ?_) AllReadyH.nil
              refine stp_ints rfl (.tmp 33) (.tmp 36) 24 rfl elemInt rfl o5 (Nat.le_trans hlw b5.size) rfl (hrd.out _ b5).1 (by rw [htkl.out]; omega) ?_
              intro v4 w6 ho4 hb4
              have o6 := own_more (xs := []) ho4 rfl
              rw [List.nil_append] at o6
              obtain ⟨d4, n4, m4, hv4, hn4⟩ := own_formN o6
              subst hv4
              have b6 := b5.trans hb4
              refine hK.out _ _ trivial (fun _ => ?_)
              clear hK K
              try simp only [List.getElem_toArray, List.getElem_cons_succ, List.getElem_cons_zero, Act.put, List.setIfInBounds_toArray, List.set_cons_zero, List.set_cons_succ]
              refine wpAnyH_ready (rs := [7]) (by kernel_rfl) (by simp) ?_
              refine AllReadyH.cons rfl (fun K hK => ?_) AllReadyH.nil
              have c6 : w6.cell? ⟨gl, 0, none⟩ = some (.int .i64 x) := by
                have h := o6.tail.head.cellAt 0 (show 0 < 1 * 1 by omega)
                simpa using h
              refine stp_one rfl (.tmp 37) (.tmp 39) 24 rfl elemInt rfl o6 (Nat.le_trans hlw b6.size) (us := [.int .i64 x]) rfl rfl ?_ (by intro u hu; simp at hu; subst hu; rfl) (by simp; omega) (by simp; omega) ?_
              · intro jj u hj
                match jj, hj with
                | 0, hj => simp at hj; subst hj; exact c6
              intro v7 w7 ho7 hb7
              have o7 := own_grow1 ho7 rfl
              have b7 := b6.trans hb7
              obtain ⟨d7, n7, m7, hv7, hn7⟩ := own_formN o7
              subst hv7
              have r7 := (hrd.out _ b7).2
              refine hK.out _ _ trivial (fun _ => ?_)
              clear hK K
              try simp only [List.getElem_toArray, List.getElem_cons_succ, List.getElem_cons_zero, Act.put, List.setIfInBounds_toArray, List.set_cons_zero, List.set_cons_succ]
              refine wpAnyH_ready (rs := [11]) (by kernel_rfl) (by simp) ?_
              refine AllReadyH.cons rfl (fun K hK => ?_) AllReadyH.nil
              refine stp_ints rfl (.tmp 40) (.tmp 43) 24 rfl elemInt rfl o7 (Nat.le_trans hlw b7.size) rfl r7 (by simp; omega) ?_
              intro v8 w8 ho8 hb8
              have o8 := own_more ho8 rfl
              have b8 := b7.trans hb8
              refine hK.out _ _ trivial (fun _ => ?_)
              clear hK K
              try simp only [List.getElem_toArray, List.getElem_cons_succ, List.getElem_cons_zero, Act.put, List.setIfInBounds_toArray, List.set_cons_zero, List.set_cons_succ]
              refine wpAnyH_take (i := 12) (v := v8) rfl (by kernel_rfl) (by kernel_rfl) (by kernel_rfl) (fun _ _ _ h => h) (Or.inl ⟨by rfl, by intro wx hx; go_simp⟩) (by assumption) ?_
              try simp only [List.getElem_toArray, List.getElem_cons_succ, List.getElem_cons_zero, Act.put, List.setIfInBounds_toArray, List.set_cons_zero, List.set_cons_succ]
              refine wpAnyH_done (by kernel_rfl) ?_ _
              rw [← hstop.out] at o8
              obtain ⟨d8, m8, hv8⟩ := o8.formInts
              subst hv8
              have hr8 := o8.reads (by unfold Short; have := putL_len (x := x) (l := L); omega) hall.out
              go_wp2_with fail
              go_ret
              exact ⟨_, _, rfl, hr8, .inr (by rw [← hB.out]; exact o8.sub (List.Sublist.cons_cons _ (List.nil_sublist _))), hEx.out _ b8⟩
          · have hrd := hid (show ∀ z, Below B w z → IsInts z (.slice da k ma) (L.take k) ∧ IsInts z (.slice (da.map fun y => y.add k) (L.length - k) (ma - k)) (L.drop k) from fun z hz => by
              have h := hL'.ext (e := Ext.trans ‹Ext w0 w› (hEx.out _ hz))
              refine ⟨h.cut hk, ?_⟩
              rw [hdr.out, hz0.out]
              exact ints_zero _ _ _)
            replace hkl := hid hkl
            go_wp2_with (go_quiet (fail))
            refine region_held_from (w0 := wq) (S := fun _ => True) (by kernel_rfl) (fun _ _ => trivial) (fun wd ed hHeld0 => ?_)
            have bd : Below B w wd := bq.trans (ed.below.mono (Nat.le_trans hlw bq.size))
            have ownd : Own wd B [] := Own.nil _ _
            have hlB : B ≤ wd.heap.size := Nat.le_trans hlw bd.size
            refine wpAnyH_take (i := 1) (v := .slice da L.length ma) rfl (by kernel_rfl) (by kernel_rfl) (by kernel_rfl) (fun _ _ _ h => h) (Or.inl ⟨by rfl, by intro wx hx; go_simp⟩) (by assumption) ?_
            try simp only [List.getElem_toArray, List.getElem_cons_succ, List.getElem_cons_zero, Act.put, List.setIfInBounds_toArray, List.set_cons_zero, List.set_cons_succ]
            refine wpAnyH_take (i := 2) (v := .int .i64 k) rfl (by kernel_rfl) (by kernel_rfl) (by kernel_rfl) (fun _ _ _ h => h) (Or.inl ⟨by rfl, by intro wx hx; go_simp⟩) (by assumption) ?_
            try simp only [List.getElem_toArray, List.getElem_cons_succ, List.getElem_cons_zero, Act.put, List.setIfInBounds_toArray, List.set_cons_zero, List.set_cons_succ]
            refine wpAnyH_take (i := 3) (v := .slice da k ma) rfl (by kernel_rfl) (by kernel_rfl) (by kernel_rfl) (fun _ _ _ h => h) (Or.inl ⟨by rfl, by intro wx hx; go_simp⟩) (by assumption) ?_
            try simp only [List.getElem_toArray, List.getElem_cons_succ, List.getElem_cons_zero, Act.put, List.setIfInBounds_toArray, List.set_cons_zero, List.set_cons_succ]
            refine wpAnyH_take (i := 5) (v := .int .i64 x) rfl (by kernel_rfl) (by kernel_rfl) (by kernel_rfl) (fun _ _ _ h => h) (Or.inl ⟨by rfl, by intro wx hx; go_simp⟩) (by assumption) ?_
            try simp only [List.getElem_toArray, List.getElem_cons_succ, List.getElem_cons_zero, Act.put, List.setIfInBounds_toArray, List.set_cons_zero, List.set_cons_succ]
            refine wpAnyH_take (i := 8) (v := .slice da L.length ma) rfl (by kernel_rfl) (by kernel_rfl) (by kernel_rfl) (fun _ _ _ h => h) (Or.inl ⟨by rfl, by intro wx hx; go_simp⟩) (by assumption) ?_
            try simp only [List.getElem_toArray, List.getElem_cons_succ, List.getElem_cons_zero, Act.put, List.setIfInBounds_toArray, List.set_cons_zero, List.set_cons_succ]
            refine wpAnyH_take (i := 9) (v := .int .i64 k) rfl (by kernel_rfl) (by kernel_rfl) (by kernel_rfl) (fun _ _ _ h => h) (Or.inl ⟨by rfl, by intro wx hx; go_simp⟩) (by assumption) ?_
            try simp only [List.getElem_toArray, List.getElem_cons_succ, List.getElem_cons_zero, Act.put, List.setIfInBounds_toArray, List.set_cons_zero, List.set_cons_succ]
            refine wpAnyH_take (i := 10) (v := .slice (da.map fun y => y.add k) (L.length - k) (ma - k)) rfl (by kernel_rfl) (by kernel_rfl) (by kernel_rfl) (fun _ _ _ h => h) (Or.inl ⟨by rfl, by intro wx hx; go_simp⟩) (by assumption) ?_
            try simp only [List.getElem_toArray, List.getElem_cons_succ, List.getElem_cons_zero, Act.put, List.setIfInBounds_toArray, List.set_cons_zero, List.set_cons_succ]
            refine wpAnyH_ready (rs := [0, 6]) (by kernel_rfl) (by simp) ?_
            refine AllReadyH.cons rfl (fun K hK => ?_) (AllReadyH.cons rfl (fun K hK => ?_) AllReadyH.nil)
            · go_simp
              have oE := ownd.lit 3 1 0 #[] hlB (by unfold maxLen; omega) rfl
              have bE : Below B w (wd.alloc (.cells #[] 3)) := bd.alloc hlB _
              refine hK.out _ _ trivial (fun _ => ?_)
              clear hK K
              try simp only [List.getElem_toArray, List.getElem_cons_succ, List.getElem_cons_zero, Act.put, List.setIfInBounds_toArray, List.set_cons_zero, List.set_cons_succ]
              generalize wd.alloc (.cells #[] 3) = wE at *
              generalize wd.heap.size = gE at *
              have hlE : B ≤ wE.heap.size := Nat.le_trans hlw bE.size
              refine wpAnyH_ready (rs := [4, 6]) (by kernel_rfl) (by simp) ?_
              refine AllReadyH.cons rfl (fun K hK => ?_) (AllReadyH.cons rfl (fun K hK => ?_) AllReadyH.nil)
              · refine stp_ints rfl (.tmp 33) (.tmp 36) 24 rfl elemInt rfl oE hlE rfl (hrd.out _ bE).1 (by rw [htkl.out]; omega) ?_
                intro v4 w4 ho4 hb4
                have o4 : Own w4 B (intRowOf 3 v4 (L.take k) :: []) := by
                  have h := own_more (xs := []) ho4 rfl
                  rwa [List.nil_append] at h
                obtain ⟨d4, n4, m4, hv4, hn4⟩ := own_formN o4
                subst hv4
                have b4 := bE.trans hb4
                have hl4 : B ≤ w4.heap.size := Nat.le_trans hlw b4.size
                refine hK.out _ _ trivial (fun _ => ?_)
                clear hK K
                try simp only [List.getElem_toArray, List.getElem_cons_succ, List.getElem_cons_zero, Act.put, List.setIfInBounds_toArray, List.set_cons_zero, List.set_cons_succ]
                refine wpAnyH_ready (rs := [6]) (by kernel_rfl) (by simp) ?_
                refine AllReadyH.cons rfl (fun K hK => ?_) AllReadyH.nil
                go_simp
                have oL := o4.lit 3 1 1 #[.int .i64 x] hl4 (by unfold maxLen; omega) rfl
                have b6 : Below B w (w4.alloc (.cells #[.int .i64 x] 3)) := b4.alloc hl4 _
                refine hK.out _ _ trivial (fun _ => ?_)
                clear hK K
                try simp only [List.getElem_toArray, List.getElem_cons_succ, List.getElem_cons_zero, Act.put, List.setIfInBounds_toArray, List.set_cons_zero, List.set_cons_succ]
                generalize w4.alloc (.cells #[.int .i64 x] 3) = w6 at *
                generalize w4.heap.size = gl at *
                have o6 := oL.perm (List.Perm.swap _ _ _)
                refine wpAnyH_ready (rs := [7]) (by kernel_rfl) (by simp) ?_
                refine AllReadyH.cons rfl (fun K hK => ?_) AllReadyH.nil
                have c6 : w6.cell? ⟨gl, 0, none⟩ = some (.int .i64 x) := by
                  have h := o6.tail.head.cellAt 0 (show 0 < 1 * 1 by omega)
                  simpa using h
                refine stp_one rfl (.tmp 37) (.tmp 39) 24 rfl elemInt rfl o6 (Nat.le_trans hlw b6.size) (us := [.int .i64 x]) rfl rfl ?_ (by intro u hu; simp at hu; subst hu; rfl) (by simp; omega) (by simp; omega) ?_
                · intro jj u hj
                  match jj, hj with
                  | 0, hj => simp at hj; subst hj; exact c6
                intro v7 w7 ho7 hb7
                have o7 := own_grow1 ho7 rfl
                have b7 := b6.trans hb7
                obtain ⟨d7, n7, m7, hv7, hn7⟩ := own_formN o7
                subst hv7
                have r7 := (hrd.out _ b7).2
                refine hK.out _ _ trivial (fun _ => ?_)
                clear hK K
                try simp only [List.getElem_toArray, List.getElem_cons_succ, List.getElem_cons_zero, Act.put, List.setIfInBounds_toArray, List.set_cons_zero, List.set_cons_succ]
                refine wpAnyH_ready (rs := [11]) (by kernel_rfl) (by simp) ?_
                refine AllReadyH.cons rfl (fun K hK => ?_) AllReadyH.nil
                refine stp_ints rfl (.tmp 40) (.tmp 43) 24 rfl elemInt rfl o7 (Nat.le_trans hlw b7.size) rfl r7 (by simp; omega) ?_
                intro v8 w8 ho8 hb8
                have o8 := own_more ho8 rfl
                have b8 := b7.trans hb8
                refine hK.out _ _ trivial (fun _ => ?_)
                clear hK K
                try simp only [List.getElem_toArray, List.getElem_cons_succ, List.getElem_cons_zero, Act.put, List.setIfInBounds_toArray, List.set_cons_zero, List.set_cons_succ]
                refine wpAnyH_take (i := 12) (v := v8) rfl (by kernel_rfl) (by kernel_rfl) (by kernel_rfl) (fun _ _ _ h => h) (Or.inl ⟨by rfl, by intro wx hx; go_simp⟩) (by assumption) ?_
                try simp only [List.getElem_toArray, List.getElem_cons_succ, List.getElem_cons_zero, Act.put, List.setIfInBounds_toArray, List.set_cons_zero, List.set_cons_succ]
                refine wpAnyH_done (by kernel_rfl) ?_ _
                rw [← hstop.out] at o8
                obtain ⟨d8, m8, hv8⟩ := o8.formInts
                subst hv8
                have hr8 := o8.reads (by unfold Short; have := putL_len (x := x) (l := L); omega) hall.out
                go_wp2_with fail
                go_ret
                exact ⟨_, _, rfl, hr8, .inr (by rw [← hB.out]; exact o8.sub (List.Sublist.cons_cons _ (List.nil_sublist _))), hEx.out _ b8⟩
              · have oL := oE.lit 3 1 1 #[.int .i64 x] hlE (by unfold maxLen; omega) rfl
                have b5 : Below B w (wE.alloc (.cells #[.int .i64 x] 3)) := bE.alloc hlE _
                go_simp
                refine hK.out _ _ trivial (fun _ => ?_)
                clear hK K
                try simp only [List.getElem_toArray, List.getElem_cons_succ, List.getElem_cons_zero, Act.put, List.setIfInBounds_toArray, List.set_cons_zero, List.set_cons_succ]
                generalize wE.alloc (.cells #[.int .i64 x] 3) = w5 at *
                generalize wE.heap.size = gl at *
                have o5 := oL.perm (List.Perm.swap _ _ _)
                refine wpAnyH_ready (rs := [4]) (by kernel_rfl) (by simp) ?_
                refine AllReadyH.cons rfl (fun K hK => ?_) AllReadyH.nil
                refine stp_ints rfl (.tmp 33) (.tmp 36) 24 rfl elemInt rfl o5 (Nat.le_trans hlw b5.size) rfl (hrd.out _ b5).1 (by rw [htkl.out]; omega) ?_
                intro v4 w6 ho4 hb4
                have o6 := own_more (xs := []) ho4 rfl
                rw [List.nil_append] at o6
                obtain ⟨d4, n4, m4, hv4, hn4⟩ := own_formN o6
                subst hv4
                have b6 := b5.trans hb4
                refine hK.out _ _ trivial (fun _ => ?_)
                clear hK K
                try simp only [List.getElem_toArray, List.getElem_cons_succ, List.getElem_cons_zero, Act.put, List.setIfInBounds_toArray, List.set_cons_zero, List.set_cons_succ]
                refine wpAnyH_ready (rs := [7]) (by kernel_rfl) (by simp) ?_
                refine AllReadyH.cons rfl (fun K hK => ?_) AllReadyH.nil
                have c6 : w6.cell? ⟨gl, 0, none⟩ = some (.int .i64 x) := by
                  have h := o6.tail.head.cellAt 0 (show 0 < 1 * 1 by omega)
                  simpa using h
                refine stp_one rfl (.tmp 37) (.tmp 39) 24 rfl elemInt rfl o6 (Nat.le_trans hlw b6.size) (us := [.int .i64 x]) rfl rfl ?_ (by intro u hu; simp at hu; subst hu; rfl) (by simp; omega) (by simp; omega) ?_
                · intro jj u hj
                  match jj, hj with
                  | 0, hj => simp at hj; subst hj; exact c6
                intro v7 w7 ho7 hb7
                have o7 := own_grow1 ho7 rfl
                have b7 := b6.trans hb7
                obtain ⟨d7, n7, m7, hv7, hn7⟩ := own_formN o7
                subst hv7
                have r7 := (hrd.out _ b7).2
                refine hK.out _ _ trivial (fun _ => ?_)
                clear hK K
                try simp only [List.getElem_toArray, List.getElem_cons_succ, List.getElem_cons_zero, Act.put, List.setIfInBounds_toArray, List.set_cons_zero, List.set_cons_succ]
                refine wpAnyH_ready (rs := [11]) (by kernel_rfl) (by simp) ?_
                refine AllReadyH.cons rfl (fun K hK => ?_) AllReadyH.nil
                refine stp_ints rfl (.tmp 40) (.tmp 43) 24 rfl elemInt rfl o7 (Nat.le_trans hlw b7.size) rfl r7 (by simp; omega) ?_
                intro v8 w8 ho8 hb8
                have o8 := own_more ho8 rfl
                have b8 := b7.trans hb8
                refine hK.out _ _ trivial (fun _ => ?_)
                clear hK K
                try simp only [List.getElem_toArray, List.getElem_cons_succ, List.getElem_cons_zero, Act.put, List.setIfInBounds_toArray, List.set_cons_zero, List.set_cons_succ]
                refine wpAnyH_take (i := 12) (v := v8) rfl (by kernel_rfl) (by kernel_rfl) (by kernel_rfl) (fun _ _ _ h => h) (Or.inl ⟨by rfl, by intro wx hx; go_simp⟩) (by assumption) ?_
                try simp only [List.getElem_toArray, List.getElem_cons_succ, List.getElem_cons_zero, Act.put, List.setIfInBounds_toArray, List.set_cons_zero, List.set_cons_succ]
                refine wpAnyH_done (by kernel_rfl) ?_ _
                rw [← hstop.out] at o8
                obtain ⟨d8, m8, hv8⟩ := o8.formInts
                subst hv8
                have hr8 := o8.reads (by unfold Short; have := putL_len (x := x) (l := L); omega) hall.out
                go_wp2_with fail
                go_ret
                exact ⟨_, _, rfl, hr8, .inr (by rw [← hB.out]; exact o8.sub (List.Sublist.cons_cons _ (List.nil_sublist _))), hEx.out _ b8⟩
            · have oL := ownd.lit 3 1 1 #[.int .i64 x] hlB (by unfold maxLen; omega) rfl
              have bL : Below B w (wd.alloc (.cells #[.int .i64 x] 3)) := bd.alloc hlB _
              go_simp
              refine hK.out _ _ trivial (fun _ => ?_)
              clear hK K
              try simp only [List.getElem_toArray, List.getElem_cons_succ, List.getElem_cons_zero, Act.put, List.setIfInBounds_toArray, List.set_cons_zero, List.set_cons_succ]
              generalize wd.alloc (.cells #[.int .i64 x] 3) = wL at *
              generalize wd.heap.size = gl at *
              have hlL : B ≤ wL.heap.size := Nat.le_trans hlw bL.size
              refine wpAnyH_ready (rs := [0]) (by kernel_rfl) (by simp) ?_
              refine AllReadyH.cons rfl (fun K hK => ?_) AllReadyH.nil
              go_simp
              have o5 := oL.lit 3 1 0 #[] hlL (by unfold maxLen; omega) rfl
              have b5 : Below B w (wL.alloc (.cells #[] 3)) := bL.alloc hlL _
              refine hK.out _ _ trivial (fun _ => ?_)
              clear hK K
              try simp only [List.getElem_toArray, List.getElem_cons_succ, List.getElem_cons_zero, Act.put, List.setIfInBounds_toArray, List.set_cons_zero, List.set_cons_succ]
              generalize wL.alloc (.cells #[] 3) = w5 at *
              generalize wL.heap.size = gE at *
              refine wpAnyH_ready (rs := [4]) (by kernel_rfl) (by simp) ?_
              refine AllReadyH.cons rfl (fun K hK => ?_) AllReadyH.nil
              refine stp_ints rfl (.tmp 33) (.tmp 36) 24 rfl elemInt rfl o5 (Nat.le_trans hlw b5.size) rfl (hrd.out _ b5).1 (by rw [htkl.out]; omega) ?_
              intro v4 w6 ho4 hb4
              have o6 := own_more (xs := []) ho4 rfl
              rw [List.nil_append] at o6
              obtain ⟨d4, n4, m4, hv4, hn4⟩ := own_formN o6
              subst hv4
              have b6 := b5.trans hb4
              refine hK.out _ _ trivial (fun _ => ?_)
              clear hK K
              try simp only [List.getElem_toArray, List.getElem_cons_succ, List.getElem_cons_zero, Act.put, List.setIfInBounds_toArray, List.set_cons_zero, List.set_cons_succ]
              refine wpAnyH_ready (rs := [7]) (by kernel_rfl) (by simp) ?_
              refine AllReadyH.cons rfl (fun K hK => ?_) AllReadyH.nil
              have c6 : w6.cell? ⟨gl, 0, none⟩ = some (.int .i64 x) := by
                have h := o6.tail.head.cellAt 0 (show 0 < 1 * 1 by omega)
                simpa using h
              refine stp_one rfl (.tmp 37) (.tmp 39) 24 rfl elemInt rfl o6 (Nat.le_trans hlw b6.size) (us := [.int .i64 x]) rfl rfl ?_ (by intro u hu; simp at hu; subst hu; rfl) (by simp; omega) (by simp; omega) ?_
              · intro jj u hj
                match jj, hj with
                | 0, hj => simp at hj; subst hj; exact c6
              intro v7 w7 ho7 hb7
              have o7 := own_grow1 ho7 rfl
              have b7 := b6.trans hb7
              obtain ⟨d7, n7, m7, hv7, hn7⟩ := own_formN o7
              subst hv7
              have r7 := (hrd.out _ b7).2
              refine hK.out _ _ trivial (fun _ => ?_)
              clear hK K
              try simp only [List.getElem_toArray, List.getElem_cons_succ, List.getElem_cons_zero, Act.put, List.setIfInBounds_toArray, List.set_cons_zero, List.set_cons_succ]
              refine wpAnyH_ready (rs := [11]) (by kernel_rfl) (by simp) ?_
              refine AllReadyH.cons rfl (fun K hK => ?_) AllReadyH.nil
              refine stp_ints rfl (.tmp 40) (.tmp 43) 24 rfl elemInt rfl o7 (Nat.le_trans hlw b7.size) rfl r7 (by simp; omega) ?_
              intro v8 w8 ho8 hb8
              have o8 := own_more ho8 rfl
              have b8 := b7.trans hb8
              refine hK.out _ _ trivial (fun _ => ?_)
              clear hK K
              try simp only [List.getElem_toArray, List.getElem_cons_succ, List.getElem_cons_zero, Act.put, List.setIfInBounds_toArray, List.set_cons_zero, List.set_cons_succ]
              refine wpAnyH_take (i := 12) (v := v8) rfl (by kernel_rfl) (by kernel_rfl) (by kernel_rfl) (fun _ _ _ h => h) (Or.inl ⟨by rfl, by intro wx hx; go_simp⟩) (by assumption) ?_
              try simp only [List.getElem_toArray, List.getElem_cons_succ, List.getElem_cons_zero, Act.put, List.setIfInBounds_toArray, List.set_cons_zero, List.set_cons_succ]
              refine wpAnyH_done (by kernel_rfl) ?_ _
              rw [← hstop.out] at o8
              obtain ⟨d8, m8, hv8⟩ := o8.formInts
              subst hv8
              have hr8 := o8.reads (by unfold Short; have := putL_len (x := x) (l := L); omega) hall.out
              go_wp2_with fail
              go_ret
              exact ⟨_, _, rfl, hr8, .inr (by rw [← hB.out]; exact o8.sub (List.Sublist.cons_cons _ (List.nil_sublist _))), hEx.out _ b8⟩
theorem l1Put_any {v : Value} {L : List Int} {x : Int} {w0 w : World} [Ext w0 w] (hL : IsInts w0 v L) (hxi : I64 x) (hl : L.length ≤ 100000) :
    Calls Tryz.prog 86 #[v, .int .i64 x] w fun e w' => ∃ d m, e = .returned (.slice d (putL L x).length m) ∧ IsInts w' (.slice d (putL L x).length m) (putL L x) ∧ Ext w w' :=
  (l1PutO_any hL hxi hl).mono fun _ _ ⟨d, m, h1, h2, _, h3⟩ => ⟨d, m, h1, h2, h3⟩
end Go.Proofs.YtaphnkgjcmneoaaGreatDoor
