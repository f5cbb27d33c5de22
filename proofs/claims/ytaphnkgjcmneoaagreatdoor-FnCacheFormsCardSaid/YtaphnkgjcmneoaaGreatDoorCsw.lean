/- A list without one element. -/
import Derived.Test.YtaphnkgjcmneoaaGreatDoorSwp
import Derived.Test.YtaphnkgjcmneoaaGreatDoorCst
namespace Go.Proofs.YtaphnkgjcmneoaaGreatDoor
open Go.RowKit


theorem ints_cut {w : World} {a : Option Addr} {n c : Nat} {xs : List Int} (h : IsInts w (.slice a n c) xs) {k : Nat} (hk : k ≤ xs.length) : IsInts w (.slice a k c) (xs.take k) := by
  obtain ⟨a', c', h1, h2, h3, h4⟩ := h
  cases h1
  have hl : (xs.take k).length = k := by rw [List.length_take]; omega
  refine ⟨a, c, by rw [hl], ⟨by have := h2.1; unfold Short at this ⊢; omega, by have := h2.2; omega⟩, fun x hx => h3 x (List.mem_of_mem_take hx), fun j hj => ?_⟩
  rw [hl] at hj
  obtain ⟨b, o, h5, h6⟩ := h4 j (by omega)
  refine ⟨b, o, h5, ?_⟩
  rw [h6]
  simp [nth, hj]
theorem ints_drop {w : World} {b o c n : Nat} {xs : List Int} (h : IsInts w (.slice (some ⟨b, o, none⟩) n c) xs) {k : Nat} (_hk : k ≤ xs.length) :
    IsInts w (.slice (if c = k then some ⟨b, o, none⟩ else some ⟨b, o + k, none⟩) (xs.drop k).length (c - k)) (xs.drop k) := by
  obtain ⟨a', c'', h1, h2, h3, h4⟩ := h
  cases h1
  refine ⟨_, _, rfl, ⟨by have := h2.1; unfold Short at this ⊢; rw [List.length_drop]; omega, by have := h2.2; rw [List.length_drop]; omega⟩, fun x hx => h3 x (List.mem_of_mem_drop hx), fun j hj => ⟨b, o + k, ?_, ?_⟩⟩
  · rw [List.length_drop] at hj
    have := h2.2
    rw [if_neg (by omega)]
  · rw [List.length_drop] at hj
    obtain ⟨b', o', h5, h6⟩ := h4 (k + j) (by omega)
    cases h5
    rw [Nat.add_assoc, h6]
    simp [nth]
set_option maxHeartbeats 1600000 in
set_option maxRecDepth 100000 in
theorem l4Without_any {v : Value} {a : List Int} {k : Nat} {w0 w : World} [Ext w0 w] (ha : IsInts w0 v a) (hk : k < a.length) (hl : a.length ≤ 1000) :
    Calls Tryz.prog 95 #[v, .int .i64 k] w fun e w' => ∃ d m, e = .returned (.slice d (a.length - 1) m) ∧ Own w' w.heap.size [intRowOf 3 (.slice d (a.length - 1) m) (a.take k ++ a.drop (k + 1))] ∧ Ext w w' := by
  have ha' := ha
  obtain ⟨da, ma, rfl, la⟩ := ha.form
  obtain ⟨b, o, hd, -⟩ := ha'.at (w' := w0) hk
  cases hd
  have hcap := ha'.cap
  have htl : (a.take k).length = k := by rw [List.length_take]; omega
  have hdl : (a.drop (k + 1)).length = a.length - (k + 1) := List.length_drop
  have hT := ints_cut ha' (k := k) (by omega)
  have hO := hid (fun (u : World) (e : Ext w0 u) => @l1Own_any _ (a.take k) w0 u e hT)
  rw [htl] at hO
  replace hO := hid hO.out
  go_enter Tryz.func95, Tryz.ntmps95
  go_upto_region 1 with fail
  by_cases hm : ma = k + 1
  · subst hm
    have hD := hid (fun (u : World) (e : Ext w0 u) => (show IsInts u (.slice (some ⟨b, o, none⟩) 0 0) (a.drop (k + 1)) from by
      have h := (ints_drop ha' (k := k + 1) (by omega)).ext (w' := u)
      rw [if_pos rfl, hdl, Nat.sub_self, show a.length - (k + 1) = 0 by omega] at h
      exact h))
    refine region_held_from (w0 := w) (S := fun _ => True) (by kernel_rfl) (fun _ _ => trivial) (fun wd ed hHeld0 => ?_)
    have e0d : Ext w0 wd := Ext.trans ‹Ext w0 w› ed
    refine wpAnyH_take (i := 0) (v := .slice (some ⟨b, o, none⟩) a.length (k + 1)) rfl (by kernel_rfl) (by kernel_rfl) (by kernel_rfl) (fun _ _ _ h => h) (Or.inl ⟨by rfl, by intro wx hx; go_simp⟩) (by assumption) ?_
    try simp only [List.getElem_toArray, List.getElem_cons_zero, Act.put, List.setIfInBounds_toArray, List.set_cons_zero, List.set_cons_succ]
    refine wpAnyH_take (i := 1) (v := .int .i64 k) rfl (by kernel_rfl) (by kernel_rfl) (by kernel_rfl) (fun _ _ _ h => h) (Or.inl ⟨by rfl, by intro wx hx; go_simp⟩) (by assumption) ?_
    try simp only [List.getElem_toArray, List.getElem_cons_succ, List.getElem_cons_zero, Act.put, List.setIfInBounds_toArray, List.set_cons_zero, List.set_cons_succ]
    refine wpAnyH_take (i := 2) (v := .slice (some ⟨b, o, none⟩) k (k + 1)) rfl (by kernel_rfl) (by kernel_rfl) (by kernel_rfl) (fun _ _ _ h => h) (Or.inl ⟨by rfl, by intro wx hx; go_simp; try (intro h; omega)⟩) (by assumption) ?_
    try simp only [List.getElem_toArray, List.getElem_cons_succ, List.getElem_cons_zero, Act.put, List.setIfInBounds_toArray, List.set_cons_zero, List.set_cons_succ]
    refine wpAnyH_take (i := 4) (v := .slice (some ⟨b, o, none⟩) a.length (k + 1)) rfl (by kernel_rfl) (by kernel_rfl) (by kernel_rfl) (fun _ _ _ h => h) (Or.inl ⟨by rfl, by intro wx hx; go_simp⟩) (by assumption) ?_
    try simp only [List.getElem_toArray, List.getElem_cons_succ, List.getElem_cons_zero, Act.put, List.setIfInBounds_toArray, List.set_cons_zero, List.set_cons_succ]
    refine wpAnyH_take (i := 5) (v := .int .i64 k) rfl (by kernel_rfl) (by kernel_rfl) (by kernel_rfl) (fun _ _ _ h => h) (Or.inl ⟨by rfl, by intro wx hx; go_simp⟩) (by assumption) ?_
    try simp only [List.getElem_toArray, List.getElem_cons_succ, List.getElem_cons_zero, Act.put, List.setIfInBounds_toArray, List.set_cons_zero, List.set_cons_succ]
    refine wpAnyH_take (i := 6) (v := .int .i64 (k + 1)) rfl (by kernel_rfl) (by kernel_rfl) (by kernel_rfl) (fun _ _ _ h => h) (Or.inl ⟨by rfl, by intro wx hx; go_simp; exact IntWalk.i64_in _ (by omega)⟩) (by assumption) ?_
    try simp only [List.getElem_toArray, List.getElem_cons_succ, List.getElem_cons_zero, Act.put, List.setIfInBounds_toArray, List.set_cons_zero, List.set_cons_succ]
    refine wpAnyH_take (i := 7) (v := .slice (some ⟨b, o, none⟩) 0 0) rfl (by kernel_rfl) (by kernel_rfl) (by kernel_rfl) (fun _ _ _ h => h) (Or.inl ⟨by rfl, by intro wx hx; go_simp; try (intro h; exact absurd (h (by omega)) (by omega))⟩) (by assumption) ?_
    try simp only [List.getElem_toArray, List.getElem_cons_succ, List.getElem_cons_zero, Act.put, List.setIfInBounds_toArray, List.set_cons_zero, List.set_cons_succ]
    refine wpAnyH_ready (rs := [3]) (by kernel_rfl) (by simp) ?_
    refine AllReadyH.cons rfl (fun K hK => ?_) AllReadyH.nil
    go_simp
    refine (hO.out wd e0d).mono ?_
    rintro e w1 ⟨d1, m1, rfl, own1, e1⟩
    have b1 : Below w.heap.size w w1 := ed.below.trans (e1.below.mono ed.below.size)
    refine hK.out _ _ trivial (fun _ => ?_)
    clear hK K
    try simp only [List.getElem_toArray, List.getElem_cons_succ, List.getElem_cons_zero, Act.put, List.setIfInBounds_toArray, List.set_cons_zero, List.set_cons_succ]
    refine wpAnyH_ready (rs := [8]) (by kernel_rfl) (by simp) ?_
    refine AllReadyH.cons rfl (fun K hK => ?_) AllReadyH.nil
    refine stp_ints rfl (.tmp 8) (.tmp 12) 24 rfl elemInt rfl (own1.mono ed.below.size) (Nat.le_trans (Nat.le_refl _) b1.size) rfl (hD.out w1 ⟨(‹Ext w0 w›).below.trans (b1.mono (‹Ext w0 w›).below.size)⟩) (by rw [hdl]; omega) ?_
    intro v4 w4 ho4 hb4
    have o4 := own_more ho4 rfl
    obtain ⟨d4, n4, m4, hv4, hn4⟩ := own_formN o4
    subst hv4
    refine hK.out _ _ trivial (fun _ => ?_)
    clear hK K
    try simp only [List.getElem_toArray, List.getElem_cons_succ, List.getElem_cons_zero, Act.put, List.setIfInBounds_toArray, List.set_cons_zero, List.set_cons_succ]
    refine wpAnyH_take (i := 9) (v := .slice d4 n4 m4) rfl (by kernel_rfl) (by kernel_rfl) (by kernel_rfl) (fun _ _ _ h => h) (Or.inl ⟨by rfl, by intro wx hx; go_simp⟩) (by assumption) ?_
    try simp only [List.getElem_toArray, List.getElem_cons_succ, List.getElem_cons_zero, Act.put, List.setIfInBounds_toArray, List.set_cons_zero, List.set_cons_succ]
    refine wpAnyH_done (by kernel_rfl) ?_ _
    go_wp2_with fail
    go_ret
    obtain rfl : n4 = a.length - 1 := by rw [hn4.out, len_wo hk]
    exact ⟨d4, m4, rfl, o4, ⟨b1.trans hb4⟩⟩
  · have hD := hid (fun (u : World) (e : Ext w0 u) => (show IsInts u (.slice (some ⟨b, o + (k + 1), none⟩) (a.length - (k + 1)) (ma - (k + 1))) (a.drop (k + 1)) from by
      have h := (ints_drop ha' (k := k + 1) (by omega)).ext (w' := u)
      rw [if_neg hm, hdl] at h
      exact h))
    refine region_held_from (w0 := w) (S := fun _ => True) (by kernel_rfl) (fun _ _ => trivial) (fun wd ed hHeld0 => ?_)
    have e0d : Ext w0 wd := Ext.trans ‹Ext w0 w› ed
    refine wpAnyH_take (i := 0) (v := .slice (some ⟨b, o, none⟩) a.length ma) rfl (by kernel_rfl) (by kernel_rfl) (by kernel_rfl) (fun _ _ _ h => h) (Or.inl ⟨by rfl, by intro wx hx; go_simp⟩) (by assumption) ?_
    try simp only [List.getElem_toArray, List.getElem_cons_zero, Act.put, List.setIfInBounds_toArray, List.set_cons_zero, List.set_cons_succ]
    refine wpAnyH_take (i := 1) (v := .int .i64 k) rfl (by kernel_rfl) (by kernel_rfl) (by kernel_rfl) (fun _ _ _ h => h) (Or.inl ⟨by rfl, by intro wx hx; go_simp⟩) (by assumption) ?_
    try simp only [List.getElem_toArray, List.getElem_cons_succ, List.getElem_cons_zero, Act.put, List.setIfInBounds_toArray, List.set_cons_zero, List.set_cons_succ]
    refine wpAnyH_take (i := 2) (v := .slice (some ⟨b, o, none⟩) k ma) rfl (by kernel_rfl) (by kernel_rfl) (by kernel_rfl) (fun _ _ _ h => h) (Or.inl ⟨by rfl, by intro wx hx; go_simp; try (intro h; omega)⟩) (by assumption) ?_
    try simp only [List.getElem_toArray, List.getElem_cons_succ, List.getElem_cons_zero, Act.put, List.setIfInBounds_toArray, List.set_cons_zero, List.set_cons_succ]
    refine wpAnyH_take (i := 4) (v := .slice (some ⟨b, o, none⟩) a.length ma) rfl (by kernel_rfl) (by kernel_rfl) (by kernel_rfl) (fun _ _ _ h => h) (Or.inl ⟨by rfl, by intro wx hx; go_simp⟩) (by assumption) ?_
    try simp only [List.getElem_toArray, List.getElem_cons_succ, List.getElem_cons_zero, Act.put, List.setIfInBounds_toArray, List.set_cons_zero, List.set_cons_succ]
    refine wpAnyH_take (i := 5) (v := .int .i64 k) rfl (by kernel_rfl) (by kernel_rfl) (by kernel_rfl) (fun _ _ _ h => h) (Or.inl ⟨by rfl, by intro wx hx; go_simp⟩) (by assumption) ?_
    try simp only [List.getElem_toArray, List.getElem_cons_succ, List.getElem_cons_zero, Act.put, List.setIfInBounds_toArray, List.set_cons_zero, List.set_cons_succ]
    refine wpAnyH_take (i := 6) (v := .int .i64 (k + 1)) rfl (by kernel_rfl) (by kernel_rfl) (by kernel_rfl) (fun _ _ _ h => h) (Or.inl ⟨by rfl, by intro wx hx; go_simp; exact IntWalk.i64_in _ (by omega)⟩) (by assumption) ?_
    try simp only [List.getElem_toArray, List.getElem_cons_succ, List.getElem_cons_zero, Act.put, List.setIfInBounds_toArray, List.set_cons_zero, List.set_cons_succ]
    refine wpAnyH_take (i := 7) (v := .slice (some ⟨b, o + (k + 1), none⟩) (a.length - (k + 1)) (ma - (k + 1))) rfl (by kernel_rfl) (by kernel_rfl) (by kernel_rfl) (fun _ _ _ h => h) (Or.inl ⟨by rfl, by intro wx hx; go_simp; try (intro h; exact absurd (h (by omega)) (by omega))⟩) (by assumption) ?_
    try simp only [List.getElem_toArray, List.getElem_cons_succ, List.getElem_cons_zero, Act.put, List.setIfInBounds_toArray, List.set_cons_zero, List.set_cons_succ]
    refine wpAnyH_ready (rs := [3]) (by kernel_rfl) (by simp) ?_
    refine AllReadyH.cons rfl (fun K hK => ?_) AllReadyH.nil
    go_simp
    refine (hO.out wd e0d).mono ?_
    rintro e w1 ⟨d1, m1, rfl, own1, e1⟩
    have b1 : Below w.heap.size w w1 := ed.below.trans (e1.below.mono ed.below.size)
    refine hK.out _ _ trivial (fun _ => ?_)
    clear hK K
    try simp only [List.getElem_toArray, List.getElem_cons_succ, List.getElem_cons_zero, Act.put, List.setIfInBounds_toArray, List.set_cons_zero, List.set_cons_succ]
    refine wpAnyH_ready (rs := [8]) (by kernel_rfl) (by simp) ?_
    refine AllReadyH.cons rfl (fun K hK => ?_) AllReadyH.nil
    refine stp_ints rfl (.tmp 8) (.tmp 12) 24 rfl elemInt rfl (own1.mono ed.below.size) (Nat.le_trans (Nat.le_refl _) b1.size) rfl (hD.out w1 ⟨(‹Ext w0 w›).below.trans (b1.mono (‹Ext w0 w›).below.size)⟩) (by rw [hdl]; omega) ?_
    intro v4 w4 ho4 hb4
    have o4 := own_more ho4 rfl
    obtain ⟨d4, n4, m4, hv4, hn4⟩ := own_formN o4
    subst hv4
    refine hK.out _ _ trivial (fun _ => ?_)
    clear hK K
    try simp only [List.getElem_toArray, List.getElem_cons_succ, List.getElem_cons_zero, Act.put, List.setIfInBounds_toArray, List.set_cons_zero, List.set_cons_succ]
    refine wpAnyH_take (i := 9) (v := .slice d4 n4 m4) rfl (by kernel_rfl) (by kernel_rfl) (by kernel_rfl) (fun _ _ _ h => h) (Or.inl ⟨by rfl, by intro wx hx; go_simp⟩) (by assumption) ?_
    try simp only [List.getElem_toArray, List.getElem_cons_succ, List.getElem_cons_zero, Act.put, List.setIfInBounds_toArray, List.set_cons_zero, List.set_cons_succ]
    refine wpAnyH_done (by kernel_rfl) ?_ _
    go_wp2_with fail
    go_ret
    obtain rfl : n4 = a.length - 1 := by rw [hn4.out, len_wo hk]
    exact ⟨d4, m4, rfl, o4, ⟨b1.trans hb4⟩⟩
end Go.Proofs.YtaphnkgjcmneoaaGreatDoor
