/- Numbers in ascending order: the reference's way. -/
import Derived.Test.YtllfchcocgdcjaaGreatGrG
namespace Go.Proofs.YtllfchcocgdcjaaGreat
open Go.RowKit

theorem IsInts.cut {w : World} {a : Option Addr} {n c : Nat} {xs : List Int} (h : IsInts w (.slice a n c) xs) {k : Nat} (hk : k ≤ xs.length) : IsInts w (.slice a k c) (xs.take k) := by
  obtain ⟨a', c', h1, h2, h3, h4⟩ := h
  cases h1
  have hl : (xs.take k).length = k := by rw [List.length_take]; omega
  refine ⟨a, c, by rw [hl], ⟨by have := h2.1; unfold Short at this ⊢; omega, by have := h2.2; omega⟩, fun x hx => h3 x (List.mem_of_mem_take hx), fun j hj => ?_⟩
  rw [hl] at hj
  obtain ⟨b, o, h5, h6⟩ := h4 j (by omega)
  refine ⟨b, o, h5, ?_⟩
  rw [h6]
  simp [nth, hj]
theorem IsInts.tailAt {w : World} {b o n c : Nat} {xs : List Int} (h : IsInts w (.slice (some ⟨b, o, none⟩) n c) xs) {k : Nat} (hk : k ≤ xs.length) : IsInts w (.slice (some ⟨b, o + k, none⟩) (n - k) (c - k)) (xs.drop k) := by
  obtain ⟨a', c', h1, h2, h3, h4⟩ := h
  cases h1
  have hl : (xs.drop k).length = xs.length - k := List.length_drop
  refine ⟨_, _, by rw [hl], ⟨by have := h2.1; unfold Short at this ⊢; omega, by have := h2.2; omega⟩, fun x hx => h3 x (List.mem_of_mem_drop hx), fun j hj => ?_⟩
  rw [hl] at hj
  obtain ⟨b', o', h5, h6⟩ := h4 (k + j) (by omega)
  cases h5
  refine ⟨b, o + k, rfl, ?_⟩
  rw [Nat.add_assoc, h6]
  simp [nth]
theorem ints_zero (u : World) (d : Option Addr) (c : Nat) : IsInts u (.slice d 0 c) [] := ⟨d, c, rfl, ⟨Nat.zero_le _, Nat.zero_le _⟩, by simp, fun j hj => by simp at hj⟩
theorem own_some {w : World} {B e n c : Nat} {d : Option Addr} {xs : List Int} {R : List Row} (h : Own w B (⟨e, 1, .slice d n c, n, xs.map (Value.int .i64)⟩ :: R)) : 0 < c → ∃ g, d = some ⟨g, 0, none⟩ := by
  intro hc
  rcases h.head.2 with ⟨h1, _⟩ | ⟨g, cap, cur, hv, _⟩
  · have h1' : Value.slice d n c = .slice none 0 0 := h1
    cases h1'
    omega
  · have hv' : Value.slice d n c = .slice (some ⟨g, 0, none⟩) n cap := hv
    cases hv'
    exact ⟨g, rfl⟩
/-- insertion -/
theorem ins_sort {xs : List Int} {x : Int} {k : Nat} (hs : Asc xs) (hk : k ≤ xs.length) (h1 : ∀ j, j < k → nth xs j ≤ x) (h2 : k < xs.length → x ≤ nth xs k) {l : List Int} (hp : xs.Perm l) : xs.take k ++ [x] ++ xs.drop k = sortL (l ++ [x]) := by
  refine asc_uniq ?_ (sortL_asc _) ?_
  · rw [Asc, List.append_assoc, List.pairwise_append]
    refine ⟨hs.sublist (List.take_sublist _ _), ?_, fun a ha b hb => ?_⟩
    · rw [List.singleton_append, List.pairwise_cons]
      refine ⟨fun b hb => ?_, hs.sublist (List.drop_sublist _ _)⟩
      obtain ⟨j, hj, rfl⟩ := mem_iff_nth.1 hb
      rw [List.length_drop] at hj
      have e : nth (xs.drop k) j = nth xs (k + j) := by simp [nth]
      rw [e]
      have h3 := h2 (by omega)
      rcases Nat.eq_zero_or_pos j with h | h
      · subst h; exact h3
      · have := (List.pairwise_iff_getElem.1 hs) k (k + j) (by omega) (by omega) (by omega)
        have e1 : nth xs k = xs[k]'(by omega) := by simp [nth, show k < xs.length by omega]
        have e2 : nth xs (k + j) = xs[k + j]'(by omega) := by simp [nth, show k + j < xs.length by omega]
        omega
    · have ha' := ha
      obtain ⟨i, hi, rfl⟩ := mem_iff_nth.1 ha
      rw [List.length_take] at hi
      have e : nth (xs.take k) i = nth xs i := by simp [nth, show i < k by omega]
      rcases List.mem_append.1 hb with hb | hb
      · rw [List.mem_singleton] at hb
        rw [hb, e]
        exact h1 i (by omega)
      · obtain ⟨j, hj, rfl⟩ := mem_iff_nth.1 hb
        rw [List.length_drop] at hj
        have e2 : nth (xs.drop k) j = nth xs (k + j) := by simp [nth]
        have := (List.pairwise_iff_getElem.1 hs) i (k + j) (by omega) (by omega) (by omega)
        have e3 : nth xs i = xs[i]'(by omega) := by simp [nth, show i < xs.length by omega]
        have e4 : nth xs (k + j) = xs[k + j]'(by omega) := by simp [nth, show k + j < xs.length by omega]
        rw [e, e2, e3, e4]
        exact this
  · refine List.Perm.trans ?_ (sortL_perm _).symm
    have p1 : (xs.take k ++ [x] ++ xs.drop k).Perm (x :: (xs.take k ++ xs.drop k)) := by
      rw [List.append_assoc]
      exact List.perm_middle
    rw [List.take_append_drop] at p1
    exact p1.trans ((hp.cons x).trans (List.perm_append_singleton x l).symm)

set_option maxHeartbeats 1600000 in
set_option maxRecDepth 100000 in
theorem l6Sort_any {v : Value} {a : List Int} {w0 w : World} [Ext w0 w] (ha : IsInts w0 v a) (hl : a.length ≤ 1000) :
    Calls Tryz.prog 65 #[v] w fun e w' => ∃ u, e = .returned u ∧ Own w' w.heap.size [intRowOf 3 u (sortL a)] ∧ Ext w w' := by
  have ha' := ha
  obtain ⟨da, ma, rfl, la⟩ := ha.form
  have own0 : Own (w.alloc (.cells #[] 3)) w.heap.size [intRowOf 3 (.slice (some ⟨w.heap.size, 0, none⟩) ([] : List Int).length 0) []] := Own.litInts (xs := []) (Nat.le_refl _) rfl rfl (by simp) rfl
  go_enter Tryz.func65, Tryz.ntmps65
  go_upto_region 2 with fail
  obtain ⟨B, hB⟩ : ∃ b, b = w.heap.size := ⟨_, rfl⟩
  have b0 : Below B w (w.alloc (.cells #[] 3)) := by rw [hB]; exact (Below.refl _ w).alloc (Nat.le_refl _) _
  have hlw : B ≤ w.heap.size := Nat.le_of_eq hB
  rw [← hB] at own0 ⊢
  have hEx := hid (show ∀ u, Below B w u → Ext w u from fun u h => ⟨by rw [← hB]; exact h⟩)
  generalize w.alloc (.cells #[] 3) = w1 at *
  replace hB := hid hB
  have e0 : sortL (a.take 0) = [] := by rw [List.take_zero]; simp [sortL]
  have own1 : Own w1 B [intRowOf 3 (.slice (some ⟨B, 0, none⟩) 0 0) (sortL (a.take 0))] := by rw [e0]; exact own0
  clear own0 e0
  go_wp2_with fail
  go_loopw [3, 4] (fun u i wr => ∃ i' : Nat, i' ≤ a.length ∧ i = .int .i64 i' ∧ Own wr B [intRowOf 3 u (sortL (a.take i'))] ∧ Below B w wr) (fun _ i _ => a.length - (intOf i).toNat)
  case atStart => exact ⟨0, by omega, rfl, own1, b0⟩
  case round =>
    obtain ⟨i, hi, rfl, own, hb⟩ := hrel
    obtain ⟨wo, rfl⟩ : ∃ y : World, y = wr := ⟨_, rfl⟩
    obtain ⟨dO, nO, mO, rfl, hnO⟩ := own_formN own
    by_cases hlt : i < a.length
    · have hsl := hid (sortL_len (a.take i))
      have hsa := hid (sortL_asc (a.take i))
      have hsp := hid (sortL_perm (a.take i))
      have htk := hid (take_succ_nth hlt)
      have hai : ∀ y ∈ sortL (a.take i), I64 y := fun y hy => by
        have h1 := List.mem_of_mem_take ((sortL_perm _).mem_iff.1 hy)
        obtain ⟨q, hq, rfl⟩ := mem_iff_nth.1 h1
        exact ha'.i64 hq
      obtain ⟨O, hO⟩ : ∃ l, l = sortL (a.take i) := ⟨_, rfl⟩
      rw [← hO] at own hnO hsl hsa hsp hai
      have hOl := hid (show O.length = i by rw [hsl.out, List.length_take]; omega)
      have hOm : O.length ≤ 1000 := by rw [hOl.out]; omega
      obtain ⟨x, hx⟩ : ∃ x, x = nth a i := ⟨_, rfl⟩
      have hxi : I64 x := by rw [hx]; exact ha'.i64 hlt
      have hins := hid (fun (k : Nat) (hk : k ≤ O.length) (h1 : ∀ j, j < k → nth O j ≤ x) (h2 : k < O.length → x ≤ nth O k) => show sortL (a.take (i + 1)) = O.take k ++ [x] ++ O.drop k by
        rw [htk.out, ← hx]
        exact (ins_sort hsa.out hk h1 h2 hsp.out).symm)
      replace hai := hid hai
      replace hO := hid hO
      obtain rfl : nO = O.length := hnO.out
      go_wp2_with fail
      go_loopw [5] (fun q wr => ∃ k : Nat, k ≤ O.length ∧ q = .int .i64 k ∧ Hid (∀ j, j < k → nth O j ≤ x) ∧ Ext wo wr) (fun q _ => O.length - (intOf q).toNat)
      case atStart => exact ⟨0, by omega, rfl, fun j hj => by omega, Ext.refl _⟩
      case round =>
        obtain ⟨k, hk, rfl, hbe, hy⟩ := hrel
        obtain ⟨wq, rfl⟩ : ∃ y : World, y = wr := ⟨_, rfl⟩
        have ownq := own.ext (w' := wq)
        have hrO : IsInts wq (.slice dO O.length mO) O := ownq.reads (by unfold Short; omega) hai.out
        have bq : Below B w wq := hb.trans (hy.below.mono (Nat.le_trans hlw hb.size))
        have ewq : Ext w wq := hEx.out _ bq
        have e0q : Ext w0 wq := Ext.trans ‹Ext w0 w› ewq
        obtain ⟨ba, oa, hda, hca⟩ := ha'.at (w' := wq) hlt
        rw [← hx] at hca
        cases hda
        by_cases hlk : k < O.length ∧ nth O k ≤ x
        · obtain ⟨hlk, hle⟩ := hlk
          obtain ⟨bo, oo, hdo, hco⟩ := hrO.at (w' := wq) hlk
          cases hdo
          have hg : decide (k < O.length) = true := decide_eq_true hlk
          have hle' : decide (nth O k ≤ x) = true := decide_eq_true hle
          have hbe2 := hid (show ∀ j, j < k + 1 → nth O j ≤ x from fun j hj => by
            by_cases e : j = k
            · rw [e]; exact hle
            · exact hbe.out j (by omega))
          go_wp2_with (go_quiet (fail))
          go_roundw
          case rel => exact ⟨k + 1, by omega, by go_num, hbe2.out, Ext.trans hy inferInstance⟩
          case measure => simp [intOf]; omega
        · have hstop := hid (hins.out k hk hbe.out (fun h => by
            by_cases e : nth O k ≤ x
            · exact absurd ⟨h, e⟩ hlk
            · omega))
          have hgd := hid hlk
          have hcase : (k < O.length ∧ x < nth O k) ∨ k = O.length := by
            by_cases h : k < O.length
            · exact .inl ⟨h, by have := fun e => hlk ⟨h, e⟩; omega⟩
            · exact .inr (by omega)
          clear hlk hgd
          rcases hcase with ⟨hkl, hxk⟩ | hkl
          · obtain ⟨bo, oo, hdo, hco⟩ := hrO.at (w' := wq) hkl
            cases hdo
            have hg : decide (k < O.length) = true := decide_eq_true hkl
            have hle' : decide (nth O k ≤ x) = false := decide_eq_false (by omega)
            have hkm : k ≠ mO := by have := hrO.cap; omega
            go_wp2_with (go_quiet (fail))
            have htkl := hid (show (O.take k).length = k by rw [List.length_take]; omega)
            have hrd := hid (show ∀ z, Own z B [intRowOf 3 (.slice (some ⟨bo, oo, none⟩) O.length mO) O] → IsInts z (.slice (some ⟨bo, oo, none⟩) k mO) (O.take k) ∧ IsInts z (.slice (some ⟨bo, oo + k, none⟩) (O.length - k) (mO - k)) (O.drop k) from fun z hz => by
              have h := hz.reads (by unfold Short; omega) hai.out
              exact ⟨h.cut hk, h.tailAt hk⟩)
            have hcp := hrO.cap
            have hk1 : k ≤ mO := by omega
            have hk2 : ¬ mO < k := by omega
            have hk3 : mO ≠ k := by omega
            have hk4 : ¬ O.length < k := by omega
            have hk5 : ¬ mO < O.length := by omega
            refine region_held_from (w0 := wq) (S := fun u => u.cell? ⟨ba, oa + i, none⟩ = some (.int .i64 x)) (by kernel_rfl) (fun u hu => hu.cell hca) (fun wd ed hHeld0 => ?_)
            have ownd := ownq.ext (w' := wd)
            have bd : Below B w wd := bq.trans (ed.below.mono (Nat.le_trans hlw bq.size))
            have hlB : B ≤ wd.heap.size := Nat.le_trans hlw bd.size
            have hfc := hid (show ∀ u, Below B w u → u.cell? ⟨ba, oa + i, none⟩ = some (.int .i64 x) from fun u hu => by
              have e1 : Ext w0 u := Ext.trans ‹Ext w0 w› (hEx.out _ hu)
              obtain ⟨b', o', hq', hc'⟩ := ha'.at (w' := u) hlt
              cases hq'
              rw [← hx] at hc'
              exact hc')
            replace hx := hid hx
            refine wpAnyH_take (i := 1) (v := .slice (some ⟨bo, oo, none⟩) O.length mO) rfl (by kernel_rfl) (by kernel_rfl) (by kernel_rfl) (fun _ _ _ h => h) (Or.inl ⟨by rfl, by intro wx hx; go_simp⟩) (by assumption) ?_
            try simp only [List.getElem_toArray, List.getElem_cons_succ, List.getElem_cons_zero, Act.put, List.setIfInBounds_toArray, List.set_cons_zero, List.set_cons_succ]
            refine wpAnyH_take (i := 2) (v := .int .i64 k) rfl (by kernel_rfl) (by kernel_rfl) (by kernel_rfl) (fun _ _ _ h => h) (Or.inl ⟨by rfl, by intro wx hx; go_simp⟩) (by assumption) ?_
            try simp only [List.getElem_toArray, List.getElem_cons_succ, List.getElem_cons_zero, Act.put, List.setIfInBounds_toArray, List.set_cons_zero, List.set_cons_succ]
            refine wpAnyH_take (i := 3) (v := .slice (some ⟨bo, oo, none⟩) k mO) rfl (by kernel_rfl) (by kernel_rfl) (by kernel_rfl) (fun _ _ _ h => h) (Or.inl ⟨by rfl, by intro wx hx; go_simp⟩) (by assumption) ?_
            try simp only [List.getElem_toArray, List.getElem_cons_succ, List.getElem_cons_zero, Act.put, List.setIfInBounds_toArray, List.set_cons_zero, List.set_cons_succ]
            refine wpAnyH_take (i := 5) (v := .slice (some ⟨ba, oa, none⟩) a.length ma) rfl (by kernel_rfl) (by kernel_rfl) (by kernel_rfl) (fun _ _ _ h => h) (Or.inl ⟨by rfl, by intro wx hx; go_simp⟩) (by assumption) ?_
            try simp only [List.getElem_toArray, List.getElem_cons_succ, List.getElem_cons_zero, Act.put, List.setIfInBounds_toArray, List.set_cons_zero, List.set_cons_succ]
            refine wpAnyH_take (i := 6) (v := .int .i64 i) rfl (by kernel_rfl) (by kernel_rfl) (by kernel_rfl) (fun _ _ _ h => h) (Or.inl ⟨by rfl, by intro wx hx; go_simp⟩) (by assumption) ?_
            try simp only [List.getElem_toArray, List.getElem_cons_succ, List.getElem_cons_zero, Act.put, List.setIfInBounds_toArray, List.set_cons_zero, List.set_cons_succ]
            refine wpAnyH_take (i := 7) (v := .pointer (some ⟨ba, oa + i, none⟩)) rfl (by kernel_rfl) (by kernel_rfl) (by kernel_rfl) (fun _ _ _ h => h) (Or.inl ⟨by rfl, by intro wx hx; go_simp⟩) (by assumption) ?_
            try simp only [List.getElem_toArray, List.getElem_cons_succ, List.getElem_cons_zero, Act.put, List.setIfInBounds_toArray, List.set_cons_zero, List.set_cons_succ]
            refine wpAnyH_take (i := 8) (v := .int .i64 x) rfl (by kernel_rfl) (by kernel_rfl) (by kernel_rfl) (fun _ _ _ h => h) (Or.inl ⟨by rfl, by intro wx hx; go_simp⟩) (by assumption) ?_
            try simp only [List.getElem_toArray, List.getElem_cons_succ, List.getElem_cons_zero, Act.put, List.setIfInBounds_toArray, List.set_cons_zero, List.set_cons_succ]
            refine wpAnyH_take (i := 11) (v := .slice (some ⟨bo, oo, none⟩) O.length mO) rfl (by kernel_rfl) (by kernel_rfl) (by kernel_rfl) (fun _ _ _ h => h) (Or.inl ⟨by rfl, by intro wx hx; go_simp⟩) (by assumption) ?_
            try simp only [List.getElem_toArray, List.getElem_cons_succ, List.getElem_cons_zero, Act.put, List.setIfInBounds_toArray, List.set_cons_zero, List.set_cons_succ]
            refine wpAnyH_take (i := 12) (v := .int .i64 k) rfl (by kernel_rfl) (by kernel_rfl) (by kernel_rfl) (fun _ _ _ h => h) (Or.inl ⟨by rfl, by intro wx hx; go_simp⟩) (by assumption) ?_
            try simp only [List.getElem_toArray, List.getElem_cons_succ, List.getElem_cons_zero, Act.put, List.setIfInBounds_toArray, List.set_cons_zero, List.set_cons_succ]
            refine wpAnyH_take (i := 13) (v := .slice (some ⟨bo, oo + k, none⟩) (O.length - k) (mO - k)) rfl (by kernel_rfl) (by kernel_rfl) (by kernel_rfl) (fun _ _ _ h => h) (Or.inl ⟨by rfl, by intro wx hx; go_simp⟩) (by assumption) ?_
            try simp only [List.getElem_toArray, List.getElem_cons_succ, List.getElem_cons_zero, Act.put, List.setIfInBounds_toArray, List.set_cons_zero, List.set_cons_succ]
            refine wpAnyH_ready (rs := [0, 9]) (by kernel_rfl) (by simp) ?_
            refine AllReadyH.cons rfl (fun K hK => ?_) (AllReadyH.cons rfl (fun K hK => ?_) AllReadyH.nil)
            · go_simp
              have oE := ownd.lit 3 1 0 #[] hlB (by unfold maxLen; omega) rfl
              have bE : Below B w (wd.alloc (.cells #[] 3)) := bd.alloc hlB _
              refine hK.out _ _ (hfc.out _ bE) (fun _ => ?_)
              clear hK K
              try simp only [List.getElem_toArray, List.getElem_cons_succ, List.getElem_cons_zero, Act.put, List.setIfInBounds_toArray, List.set_cons_zero, List.set_cons_succ]
              generalize wd.alloc (.cells #[] 3) = wE at *
              generalize wd.heap.size = gE at *
              have hlE : B ≤ wE.heap.size := Nat.le_trans hlw bE.size
              refine wpAnyH_ready (rs := [4, 9]) (by kernel_rfl) (by simp) ?_
              refine AllReadyH.cons rfl (fun K hK => ?_) (AllReadyH.cons rfl (fun K hK => ?_) AllReadyH.nil)
              · refine stp_ints rfl (.tmp 30) (.tmp 33) 27 rfl elemInt rfl oE hlE rfl (hrd.out _ oE.tail).1 (by rw [htkl.out]; omega) ?_
                intro v4 w4 ho4 hb4
                have o4 : Own w4 B (intRowOf 3 v4 (O.take k) :: [intRowOf 3 (.slice (some ⟨bo, oo, none⟩) O.length mO) O]) := by
                  have h := own_more (xs := []) ho4 rfl
                  rwa [List.nil_append] at h
                obtain ⟨d4, n4, m4, hv4, hn4⟩ := own_formN o4
                subst hv4
                have b4 := bE.trans hb4
                have hl4 : B ≤ w4.heap.size := Nat.le_trans hlw b4.size
                refine hK.out _ _ (hfc.out _ b4) (fun _ => ?_)
                clear hK K
                try simp only [List.getElem_toArray, List.getElem_cons_succ, List.getElem_cons_zero, Act.put, List.setIfInBounds_toArray, List.set_cons_zero, List.set_cons_succ]
                refine wpAnyH_ready (rs := [9]) (by kernel_rfl) (by simp) ?_
                refine AllReadyH.cons rfl (fun K hK => ?_) AllReadyH.nil
                go_simp
                have oL := o4.lit 3 1 1 #[.int .i64 x] hl4 (by unfold maxLen; omega) rfl
                have b6 : Below B w (w4.alloc (.cells #[.int .i64 x] 3)) := b4.alloc hl4 _
                refine hK.out _ _ (hfc.out _ b6) (fun _ => ?_)
                clear hK K
                try simp only [List.getElem_toArray, List.getElem_cons_succ, List.getElem_cons_zero, Act.put, List.setIfInBounds_toArray, List.set_cons_zero, List.set_cons_succ]
                generalize w4.alloc (.cells #[.int .i64 x] 3) = w6 at *
                generalize w4.heap.size = gl at *
                have o6 := oL.perm (List.Perm.swap _ _ _)
                have hcw6 := hfc.out _ b6
                refine wpAnyH_ready (rs := [10]) (by kernel_rfl) (by simp) ?_
                refine AllReadyH.cons rfl (fun K hK => ?_) AllReadyH.nil
                have c6 : w6.cell? ⟨gl, 0, none⟩ = some (.int .i64 x) := by
                  have h := o6.tail.head.cellAt 0 (show 0 < 1 * 1 by omega)
                  simpa using h
                refine stp_one rfl (.tmp 34) (.tmp 39) 27 rfl elemInt rfl o6 (Nat.le_trans hlw b6.size) (us := [.int .i64 x]) rfl rfl ?_ (by intro u hu; simp at hu; subst hu; rfl) (by simp; omega) (by simp; omega) ?_
                · intro jj u hj
                  match jj, hj with
                  | 0, hj => simp at hj; subst hj; exact c6
                intro v7 w7 ho7 hb7
                have o7 := own_grow1 ho7 rfl
                have b7 := b6.trans hb7
                obtain ⟨d7, n7, m7, hv7, hn7⟩ := own_formN o7
                subst hv7
                have r7 := (hrd.out _ o7.tail.tail).2
                refine hK.out _ _ (hfc.out _ b7) (fun _ => ?_)
                clear hK K
                try simp only [List.getElem_toArray, List.getElem_cons_succ, List.getElem_cons_zero, Act.put, List.setIfInBounds_toArray, List.set_cons_zero, List.set_cons_succ]
                refine wpAnyH_ready (rs := [14]) (by kernel_rfl) (by simp) ?_
                refine AllReadyH.cons rfl (fun K hK => ?_) AllReadyH.nil
                refine stp_ints rfl (.tmp 40) (.tmp 43) 27 rfl elemInt rfl o7 (Nat.le_trans hlw b7.size) rfl r7 (by simp; omega) ?_
                intro v8 w8 ho8 hb8
                have o8 := own_more ho8 rfl
                have b8 := b7.trans hb8
                refine hK.out _ _ (hfc.out _ b8) (fun _ => ?_)
                clear hK K
                try simp only [List.getElem_toArray, List.getElem_cons_succ, List.getElem_cons_zero, Act.put, List.setIfInBounds_toArray, List.set_cons_zero, List.set_cons_succ]
                refine wpAnyH_take (i := 15) (v := v8) rfl (by kernel_rfl) (by kernel_rfl) (by kernel_rfl) (fun _ _ _ h => h) (Or.inl ⟨by rfl, by intro wx hx; go_simp⟩) (by assumption) ?_
                try simp only [List.getElem_toArray, List.getElem_cons_succ, List.getElem_cons_zero, Act.put, List.setIfInBounds_toArray, List.set_cons_zero, List.set_cons_succ]
                refine wpAnyH_done (by kernel_rfl) ?_ _
                go_wp2_with fail
                go_roundw
                case rel => exact ⟨i + 1, by omega, by go_num, by rw [hstop.out]; exact o8.sub (List.Sublist.cons_cons _ (List.nil_sublist _)), b8⟩
                case measure => simp [intOf]; omega
              · have oL := oE.lit 3 1 1 #[.int .i64 x] hlE (by unfold maxLen; omega) rfl
                have b5 : Below B w (wE.alloc (.cells #[.int .i64 x] 3)) := bE.alloc hlE _
                go_simp
                refine hK.out _ _ (hfc.out _ b5) (fun _ => ?_)
                clear hK K
                try simp only [List.getElem_toArray, List.getElem_cons_succ, List.getElem_cons_zero, Act.put, List.setIfInBounds_toArray, List.set_cons_zero, List.set_cons_succ]
                generalize wE.alloc (.cells #[.int .i64 x] 3) = w5 at *
                generalize wE.heap.size = gl at *
                have o5 := oL.perm (List.Perm.swap _ _ _)
                refine wpAnyH_ready (rs := [4]) (by kernel_rfl) (by simp) ?_
                refine AllReadyH.cons rfl (fun K hK => ?_) AllReadyH.nil
                refine stp_ints rfl (.tmp 30) (.tmp 33) 27 rfl elemInt rfl o5 (Nat.le_trans hlw b5.size) rfl (hrd.out _ o5.tail.tail).1 (by rw [htkl.out]; omega) ?_
                intro v4 w6 ho4 hb4
                have o6 := own_more (xs := []) ho4 rfl
                rw [List.nil_append] at o6
                obtain ⟨d4, n4, m4, hv4, hn4⟩ := own_formN o6
                subst hv4
                have b6 := b5.trans hb4
                refine hK.out _ _ (hfc.out _ b6) (fun _ => ?_)
                clear hK K
                try simp only [List.getElem_toArray, List.getElem_cons_succ, List.getElem_cons_zero, Act.put, List.setIfInBounds_toArray, List.set_cons_zero, List.set_cons_succ]
                have hcw6 := hfc.out _ b6
                refine wpAnyH_ready (rs := [10]) (by kernel_rfl) (by simp) ?_
                refine AllReadyH.cons rfl (fun K hK => ?_) AllReadyH.nil
                have c6 : w6.cell? ⟨gl, 0, none⟩ = some (.int .i64 x) := by
                  have h := o6.tail.head.cellAt 0 (show 0 < 1 * 1 by omega)
                  simpa using h
                refine stp_one rfl (.tmp 34) (.tmp 39) 27 rfl elemInt rfl o6 (Nat.le_trans hlw b6.size) (us := [.int .i64 x]) rfl rfl ?_ (by intro u hu; simp at hu; subst hu; rfl) (by simp; omega) (by simp; omega) ?_
                · intro jj u hj
                  match jj, hj with
                  | 0, hj => simp at hj; subst hj; exact c6
                intro v7 w7 ho7 hb7
                have o7 := own_grow1 ho7 rfl
                have b7 := b6.trans hb7
                obtain ⟨d7, n7, m7, hv7, hn7⟩ := own_formN o7
                subst hv7
                have r7 := (hrd.out _ o7.tail.tail).2
                refine hK.out _ _ (hfc.out _ b7) (fun _ => ?_)
                clear hK K
                try simp only [List.getElem_toArray, List.getElem_cons_succ, List.getElem_cons_zero, Act.put, List.setIfInBounds_toArray, List.set_cons_zero, List.set_cons_succ]
                refine wpAnyH_ready (rs := [14]) (by kernel_rfl) (by simp) ?_
                refine AllReadyH.cons rfl (fun K hK => ?_) AllReadyH.nil
                refine stp_ints rfl (.tmp 40) (.tmp 43) 27 rfl elemInt rfl o7 (Nat.le_trans hlw b7.size) rfl r7 (by simp; omega) ?_
                intro v8 w8 ho8 hb8
                have o8 := own_more ho8 rfl
                have b8 := b7.trans hb8
                refine hK.out _ _ (hfc.out _ b8) (fun _ => ?_)
                clear hK K
                try simp only [List.getElem_toArray, List.getElem_cons_succ, List.getElem_cons_zero, Act.put, List.setIfInBounds_toArray, List.set_cons_zero, List.set_cons_succ]
                refine wpAnyH_take (i := 15) (v := v8) rfl (by kernel_rfl) (by kernel_rfl) (by kernel_rfl) (fun _ _ _ h => h) (Or.inl ⟨by rfl, by intro wx hx; go_simp⟩) (by assumption) ?_
                try simp only [List.getElem_toArray, List.getElem_cons_succ, List.getElem_cons_zero, Act.put, List.setIfInBounds_toArray, List.set_cons_zero, List.set_cons_succ]
                refine wpAnyH_done (by kernel_rfl) ?_ _
                go_wp2_with fail
                go_roundw
                case rel => exact ⟨i + 1, by omega, by go_num, by rw [hstop.out]; exact o8.sub (List.Sublist.cons_cons _ (List.nil_sublist _)), b8⟩
                case measure => simp [intOf]; omega
            · have oL := ownd.lit 3 1 1 #[.int .i64 x] hlB (by unfold maxLen; omega) rfl
              have bL : Below B w (wd.alloc (.cells #[.int .i64 x] 3)) := bd.alloc hlB _
              go_simp
              refine hK.out _ _ (hfc.out _ bL) (fun _ => ?_)
              clear hK K
              try simp only [List.getElem_toArray, List.getElem_cons_succ, List.getElem_cons_zero, Act.put, List.setIfInBounds_toArray, List.set_cons_zero, List.set_cons_succ]
              generalize wd.alloc (.cells #[.int .i64 x] 3) = wL at *
              generalize wd.heap.size = gl at *
              have hlL : B ≤ wL.heap.size := Nat.le_trans hlw bL.size
              refine wpAnyH_ready (rs := [0]) (by kernel_rfl) (by simp) ?_
              refine AllReadyH.cons rfl (fun K hK => ?_) AllReadyH.nil
              go_simp
              have o5 := oL.lit 3 1 0 #[] hlL (by unfold maxLen; omega) rfl
              have b5 : Below B w (wL.alloc (.cells #[] 3)) := bL.alloc hlL _
              refine hK.out _ _ (hfc.out _ b5) (fun _ => ?_)
              clear hK K
              try simp only [List.getElem_toArray, List.getElem_cons_succ, List.getElem_cons_zero, Act.put, List.setIfInBounds_toArray, List.set_cons_zero, List.set_cons_succ]
              generalize wL.alloc (.cells #[] 3) = w5 at *
              generalize wL.heap.size = gE at *
              refine wpAnyH_ready (rs := [4]) (by kernel_rfl) (by simp) ?_
              refine AllReadyH.cons rfl (fun K hK => ?_) AllReadyH.nil
              refine stp_ints rfl (.tmp 30) (.tmp 33) 27 rfl elemInt rfl o5 (Nat.le_trans hlw b5.size) rfl (hrd.out _ o5.tail.tail).1 (by rw [htkl.out]; omega) ?_
              intro v4 w6 ho4 hb4
              have o6 := own_more (xs := []) ho4 rfl
              rw [List.nil_append] at o6
              obtain ⟨d4, n4, m4, hv4, hn4⟩ := own_formN o6
              subst hv4
              have b6 := b5.trans hb4
              refine hK.out _ _ (hfc.out _ b6) (fun _ => ?_)
              clear hK K
              try simp only [List.getElem_toArray, List.getElem_cons_succ, List.getElem_cons_zero, Act.put, List.setIfInBounds_toArray, List.set_cons_zero, List.set_cons_succ]
              have hcw6 := hfc.out _ b6
              refine wpAnyH_ready (rs := [10]) (by kernel_rfl) (by simp) ?_
              refine AllReadyH.cons rfl (fun K hK => ?_) AllReadyH.nil
              have c6 : w6.cell? ⟨gl, 0, none⟩ = some (.int .i64 x) := by
                have h := o6.tail.head.cellAt 0 (show 0 < 1 * 1 by omega)
                simpa using h
              refine stp_one rfl (.tmp 34) (.tmp 39) 27 rfl elemInt rfl o6 (Nat.le_trans hlw b6.size) (us := [.int .i64 x]) rfl rfl ?_ (by intro u hu; simp at hu; subst hu; rfl) (by simp; omega) (by simp; omega) ?_
              · intro jj u hj
                match jj, hj with
                | 0, hj => simp at hj; subst hj; exact c6
              intro v7 w7 ho7 hb7
              have o7 := own_grow1 ho7 rfl
              have b7 := b6.trans hb7
              obtain ⟨d7, n7, m7, hv7, hn7⟩ := own_formN o7
              subst hv7
              have r7 := (hrd.out _ o7.tail.tail).2
              refine hK.out _ _ (hfc.out _ b7) (fun _ => ?_)
              clear hK K
              try simp only [List.getElem_toArray, List.getElem_cons_succ, List.getElem_cons_zero, Act.put, List.setIfInBounds_toArray, List.set_cons_zero, List.set_cons_succ]
              refine wpAnyH_ready (rs := [14]) (by kernel_rfl) (by simp) ?_
              refine AllReadyH.cons rfl (fun K hK => ?_) AllReadyH.nil
              refine stp_ints rfl (.tmp 40) (.tmp 43) 27 rfl elemInt rfl o7 (Nat.le_trans hlw b7.size) rfl r7 (by simp; omega) ?_
              intro v8 w8 ho8 hb8
              have o8 := own_more ho8 rfl
              have b8 := b7.trans hb8
              refine hK.out _ _ (hfc.out _ b8) (fun _ => ?_)
              clear hK K
              try simp only [List.getElem_toArray, List.getElem_cons_succ, List.getElem_cons_zero, Act.put, List.setIfInBounds_toArray, List.set_cons_zero, List.set_cons_succ]
              refine wpAnyH_take (i := 15) (v := v8) rfl (by kernel_rfl) (by kernel_rfl) (by kernel_rfl) (fun _ _ _ h => h) (Or.inl ⟨by rfl, by intro wx hx; go_simp⟩) (by assumption) ?_
              try simp only [List.getElem_toArray, List.getElem_cons_succ, List.getElem_cons_zero, Act.put, List.setIfInBounds_toArray, List.set_cons_zero, List.set_cons_succ]
              refine wpAnyH_done (by kernel_rfl) ?_ _
              go_wp2_with fail
              go_roundw
              case rel => exact ⟨i + 1, by omega, by go_num, by rw [hstop.out]; exact o8.sub (List.Sublist.cons_cons _ (List.nil_sublist _)), b8⟩
              case measure => simp [intOf]; omega
          · have hg : decide (k < O.length) = false := decide_eq_false (by omega)
            have hk4 : ¬ O.length < k := by omega
            have hdr := hid (show O.drop k = [] from List.drop_eq_nil_of_le (by omega))
            have hz0 := hid (show O.length - k = 0 by omega)
            have htkl := hid (show (O.take k).length = k by rw [List.length_take]; omega)
            have hcp := hrO.cap
            have hform := own_some own
            replace hkl := hid hkl
            by_cases hkm : mO = k
            · subst hkm
              have hrd := hid (show ∀ z, Own z B [intRowOf 3 (.slice dO O.length mO) O] → IsInts z (.slice dO mO mO) (O.take mO) ∧ IsInts z (.slice dO 0 0) (O.drop mO) from fun z hz => by
                have h := hz.reads (by unfold Short; omega) hai.out
                refine ⟨h.cut hk, ?_⟩
                rw [hdr.out]
                exact ints_zero _ _ _)
              clear hform
              go_wp2_with (go_quiet (fail))
              refine region_held_from (w0 := wq) (S := fun u => u.cell? ⟨ba, oa + i, none⟩ = some (.int .i64 x)) (by kernel_rfl) (fun u hu => hu.cell hca) (fun wd ed hHeld0 => ?_)
              have ownd := ownq.ext (w' := wd)
              have bd : Below B w wd := bq.trans (ed.below.mono (Nat.le_trans hlw bq.size))
              have hlB : B ≤ wd.heap.size := Nat.le_trans hlw bd.size
              have hfc := hid (show ∀ u, Below B w u → u.cell? ⟨ba, oa + i, none⟩ = some (.int .i64 x) from fun u hu => by
                have e1 : Ext w0 u := Ext.trans ‹Ext w0 w› (hEx.out _ hu)
                obtain ⟨b', o', hq', hc'⟩ := ha'.at (w' := u) hlt
                cases hq'
                rw [← hx] at hc'
                exact hc')
              replace hx := hid hx
              refine wpAnyH_take (i := 1) (v := .slice dO O.length mO) rfl (by kernel_rfl) (by kernel_rfl) (by kernel_rfl) (fun _ _ _ h => h) (Or.inl ⟨by rfl, by intro wx hx; go_simp⟩) (by assumption) ?_
              try simp only [List.getElem_toArray, List.getElem_cons_succ, List.getElem_cons_zero, Act.put, List.setIfInBounds_toArray, List.set_cons_zero, List.set_cons_succ]
              refine wpAnyH_take (i := 2) (v := .int .i64 mO) rfl (by kernel_rfl) (by kernel_rfl) (by kernel_rfl) (fun _ _ _ h => h) (Or.inl ⟨by rfl, by intro wx hx; go_simp⟩) (by assumption) ?_
              try simp only [List.getElem_toArray, List.getElem_cons_succ, List.getElem_cons_zero, Act.put, List.setIfInBounds_toArray, List.set_cons_zero, List.set_cons_succ]
              refine wpAnyH_take (i := 3) (v := .slice dO mO mO) rfl (by kernel_rfl) (by kernel_rfl) (by kernel_rfl) (fun _ _ _ h => h) (Or.inl ⟨by rfl, by intro wx hx; go_simp⟩) (by assumption) ?_
              try simp only [List.getElem_toArray, List.getElem_cons_succ, List.getElem_cons_zero, Act.put, List.setIfInBounds_toArray, List.set_cons_zero, List.set_cons_succ]
              refine wpAnyH_take (i := 5) (v := .slice (some ⟨ba, oa, none⟩) a.length ma) rfl (by kernel_rfl) (by kernel_rfl) (by kernel_rfl) (fun _ _ _ h => h) (Or.inl ⟨by rfl, by intro wx hx; go_simp⟩) (by assumption) ?_
              try simp only [List.getElem_toArray, List.getElem_cons_succ, List.getElem_cons_zero, Act.put, List.setIfInBounds_toArray, List.set_cons_zero, List.set_cons_succ]
              refine wpAnyH_take (i := 6) (v := .int .i64 i) rfl (by kernel_rfl) (by kernel_rfl) (by kernel_rfl) (fun _ _ _ h => h) (Or.inl ⟨by rfl, by intro wx hx; go_simp⟩) (by assumption) ?_
              try simp only [List.getElem_toArray, List.getElem_cons_succ, List.getElem_cons_zero, Act.put, List.setIfInBounds_toArray, List.set_cons_zero, List.set_cons_succ]
              refine wpAnyH_take (i := 7) (v := .pointer (some ⟨ba, oa + i, none⟩)) rfl (by kernel_rfl) (by kernel_rfl) (by kernel_rfl) (fun _ _ _ h => h) (Or.inl ⟨by rfl, by intro wx hx; go_simp⟩) (by assumption) ?_
              try simp only [List.getElem_toArray, List.getElem_cons_succ, List.getElem_cons_zero, Act.put, List.setIfInBounds_toArray, List.set_cons_zero, List.set_cons_succ]
              refine wpAnyH_take (i := 8) (v := .int .i64 x) rfl (by kernel_rfl) (by kernel_rfl) (by kernel_rfl) (fun _ _ _ h => h) (Or.inl ⟨by rfl, by intro wx hx; go_simp⟩) (by assumption) ?_
              try simp only [List.getElem_toArray, List.getElem_cons_succ, List.getElem_cons_zero, Act.put, List.setIfInBounds_toArray, List.set_cons_zero, List.set_cons_succ]
              refine wpAnyH_take (i := 11) (v := .slice dO O.length mO) rfl (by kernel_rfl) (by kernel_rfl) (by kernel_rfl) (fun _ _ _ h => h) (Or.inl ⟨by rfl, by intro wx hx; go_simp⟩) (by assumption) ?_
              try simp only [List.getElem_toArray, List.getElem_cons_succ, List.getElem_cons_zero, Act.put, List.setIfInBounds_toArray, List.set_cons_zero, List.set_cons_succ]
              refine wpAnyH_take (i := 12) (v := .int .i64 mO) rfl (by kernel_rfl) (by kernel_rfl) (by kernel_rfl) (fun _ _ _ h => h) (Or.inl ⟨by rfl, by intro wx hx; go_simp⟩) (by assumption) ?_
              try simp only [List.getElem_toArray, List.getElem_cons_succ, List.getElem_cons_zero, Act.put, List.setIfInBounds_toArray, List.set_cons_zero, List.set_cons_succ]
              refine wpAnyH_take (i := 13) (v := .slice dO 0 0) rfl (by kernel_rfl) (by kernel_rfl) (by kernel_rfl) (fun _ _ _ h => h) (Or.inl ⟨by rfl, by intro wx hx; go_simp⟩) (by assumption) ?_
              try simp only [List.getElem_toArray, List.getElem_cons_succ, List.getElem_cons_zero, Act.put, List.setIfInBounds_toArray, List.set_cons_zero, List.set_cons_succ]
              refine wpAnyH_ready (rs := [0, 9]) (by kernel_rfl) (by simp) ?_
              refine AllReadyH.cons rfl (fun K hK => ?_) (AllReadyH.cons rfl (fun K hK => ?_) AllReadyH.nil)
              · go_simp
                have oE := ownd.lit 3 1 0 #[] hlB (by unfold maxLen; omega) rfl
                have bE : Below B w (wd.alloc (.cells #[] 3)) := bd.alloc hlB _
                refine hK.out _ _ (hfc.out _ bE) (fun _ => ?_)
                clear hK K
                try simp only [List.getElem_toArray, List.getElem_cons_succ, List.getElem_cons_zero, Act.put, List.setIfInBounds_toArray, List.set_cons_zero, List.set_cons_succ]
                generalize wd.alloc (.cells #[] 3) = wE at *
                generalize wd.heap.size = gE at *
                have hlE : B ≤ wE.heap.size := Nat.le_trans hlw bE.size
                refine wpAnyH_ready (rs := [4, 9]) (by kernel_rfl) (by simp) ?_
                refine AllReadyH.cons rfl (fun K hK => ?_) (AllReadyH.cons rfl (fun K hK => ?_) AllReadyH.nil)
                · refine stp_ints rfl (.tmp 30) (.tmp 33) 27 rfl elemInt rfl oE hlE rfl (hrd.out _ oE.tail).1 (by rw [htkl.out]; omega) ?_
                  intro v4 w4 ho4 hb4
                  have o4 : Own w4 B (intRowOf 3 v4 (O.take mO) :: [intRowOf 3 (.slice dO O.length mO) O]) := by
                    have h := own_more (xs := []) ho4 rfl
                    rwa [List.nil_append] at h
                  obtain ⟨d4, n4, m4, hv4, hn4⟩ := own_formN o4
                  subst hv4
                  have b4 := bE.trans hb4
                  have hl4 : B ≤ w4.heap.size := Nat.le_trans hlw b4.size
                  refine hK.out _ _ (hfc.out _ b4) (fun _ => ?_)
                  clear hK K
                  try simp only [List.getElem_toArray, List.getElem_cons_succ, List.getElem_cons_zero, Act.put, List.setIfInBounds_toArray, List.set_cons_zero, List.set_cons_succ]
                  refine wpAnyH_ready (rs := [9]) (by kernel_rfl) (by simp) ?_
                  refine AllReadyH.cons rfl (fun K hK => ?_) AllReadyH.nil
                  go_simp
                  have oL := o4.lit 3 1 1 #[.int .i64 x] hl4 (by unfold maxLen; omega) rfl
                  have b6 : Below B w (w4.alloc (.cells #[.int .i64 x] 3)) := b4.alloc hl4 _
                  refine hK.out _ _ (hfc.out _ b6) (fun _ => ?_)
                  clear hK K
                  try simp only [List.getElem_toArray, List.getElem_cons_succ, List.getElem_cons_zero, Act.put, List.setIfInBounds_toArray, List.set_cons_zero, List.set_cons_succ]
                  generalize w4.alloc (.cells #[.int .i64 x] 3) = w6 at *
                  generalize w4.heap.size = gl at *
                  have o6 := oL.perm (List.Perm.swap _ _ _)
                  have hcw6 := hfc.out _ b6
                  refine wpAnyH_ready (rs := [10]) (by kernel_rfl) (by simp) ?_
                  refine AllReadyH.cons rfl (fun K hK => ?_) AllReadyH.nil
                  have c6 : w6.cell? ⟨gl, 0, none⟩ = some (.int .i64 x) := by
                    have h := o6.tail.head.cellAt 0 (show 0 < 1 * 1 by omega)
                    simpa using h
                  refine stp_one rfl (.tmp 34) (.tmp 39) 27 rfl elemInt rfl o6 (Nat.le_trans hlw b6.size) (us := [.int .i64 x]) rfl rfl ?_ (by intro u hu; simp at hu; subst hu; rfl) (by simp; omega) (by simp; omega) ?_
                  · intro jj u hj
                    match jj, hj with
                    | 0, hj => simp at hj; subst hj; exact c6
                  intro v7 w7 ho7 hb7
                  have o7 := own_grow1 ho7 rfl
                  have b7 := b6.trans hb7
                  obtain ⟨d7, n7, m7, hv7, hn7⟩ := own_formN o7
                  subst hv7
                  have r7 := (hrd.out _ o7.tail.tail).2
                  refine hK.out _ _ (hfc.out _ b7) (fun _ => ?_)
                  clear hK K
                  try simp only [List.getElem_toArray, List.getElem_cons_succ, List.getElem_cons_zero, Act.put, List.setIfInBounds_toArray, List.set_cons_zero, List.set_cons_succ]
                  refine wpAnyH_ready (rs := [14]) (by kernel_rfl) (by simp) ?_
                  refine AllReadyH.cons rfl (fun K hK => ?_) AllReadyH.nil
                  refine stp_ints rfl (.tmp 40) (.tmp 43) 27 rfl elemInt rfl o7 (Nat.le_trans hlw b7.size) rfl r7 (by simp; omega) ?_
                  intro v8 w8 ho8 hb8
                  have o8 := own_more ho8 rfl
                  have b8 := b7.trans hb8
                  refine hK.out _ _ (hfc.out _ b8) (fun _ => ?_)
                  clear hK K
                  try simp only [List.getElem_toArray, List.getElem_cons_succ, List.getElem_cons_zero, Act.put, List.setIfInBounds_toArray, List.set_cons_zero, List.set_cons_succ]
                  refine wpAnyH_take (i := 15) (v := v8) rfl (by kernel_rfl) (by kernel_rfl) (by kernel_rfl) (fun _ _ _ h => h) (Or.inl ⟨by rfl, by intro wx hx; go_simp⟩) (by assumption) ?_
                  try simp only [List.getElem_toArray, List.getElem_cons_succ, List.getElem_cons_zero, Act.put, List.setIfInBounds_toArray, List.set_cons_zero, List.set_cons_succ]
                  refine wpAnyH_done (by kernel_rfl) ?_ _
                  go_wp2_with fail
                  go_roundw
                  case rel => exact ⟨i + 1, by omega, by go_num, by rw [hstop.out]; exact o8.sub (List.Sublist.cons_cons _ (List.nil_sublist _)), b8⟩
                  case measure => simp [intOf]; omega
                · have oL := oE.lit 3 1 1 #[.int .i64 x] hlE (by unfold maxLen; omega) rfl
                  have b5 : Below B w (wE.alloc (.cells #[.int .i64 x] 3)) := bE.alloc hlE _
                  go_simp
                  refine hK.out _ _ (hfc.out _ b5) (fun _ => ?_)
                  clear hK K
                  try simp only [List.getElem_toArray, List.getElem_cons_succ, List.getElem_cons_zero, Act.put, List.setIfInBounds_toArray, List.set_cons_zero, List.set_cons_succ]
                  generalize wE.alloc (.cells #[.int .i64 x] 3) = w5 at *
                  generalize wE.heap.size = gl at *
                  have o5 := oL.perm (List.Perm.swap _ _ _)
                  refine wpAnyH_ready (rs := [4]) (by kernel_rfl) (by simp) ?_
                  refine AllReadyH.cons rfl (fun K hK => ?_) AllReadyH.nil
                  refine stp_ints rfl (.tmp 30) (.tmp 33) 27 rfl elemInt rfl o5 (Nat.le_trans hlw b5.size) rfl (hrd.out _ o5.tail.tail).1 (by rw [htkl.out]; omega) ?_
                  intro v4 w6 ho4 hb4
                  have o6 := own_more (xs := []) ho4 rfl
                  rw [List.nil_append] at o6
                  obtain ⟨d4, n4, m4, hv4, hn4⟩ := own_formN o6
                  subst hv4
                  have b6 := b5.trans hb4
                  refine hK.out _ _ (hfc.out _ b6) (fun _ => ?_)
                  clear hK K
                  try simp only [List.getElem_toArray, List.getElem_cons_succ, List.getElem_cons_zero, Act.put, List.setIfInBounds_toArray, List.set_cons_zero, List.set_cons_succ]
                  have hcw6 := hfc.out _ b6
                  refine wpAnyH_ready (rs := [10]) (by kernel_rfl) (by simp) ?_
                  refine AllReadyH.cons rfl (fun K hK => ?_) AllReadyH.nil
                  have c6 : w6.cell? ⟨gl, 0, none⟩ = some (.int .i64 x) := by
                    have h := o6.tail.head.cellAt 0 (show 0 < 1 * 1 by omega)
                    simpa using h
                  refine stp_one rfl (.tmp 34) (.tmp 39) 27 rfl elemInt rfl o6 (Nat.le_trans hlw b6.size) (us := [.int .i64 x]) rfl rfl ?_ (by intro u hu; simp at hu; subst hu; rfl) (by simp; omega) (by simp; omega) ?_
                  · intro jj u hj
                    match jj, hj with
                    | 0, hj => simp at hj; subst hj; exact c6
                  intro v7 w7 ho7 hb7
                  have o7 := own_grow1 ho7 rfl
                  have b7 := b6.trans hb7
                  obtain ⟨d7, n7, m7, hv7, hn7⟩ := own_formN o7
                  subst hv7
                  have r7 := (hrd.out _ o7.tail.tail).2
                  refine hK.out _ _ (hfc.out _ b7) (fun _ => ?_)
                  clear hK K
                  try simp only [List.getElem_toArray, List.getElem_cons_succ, List.getElem_cons_zero, Act.put, List.setIfInBounds_toArray, List.set_cons_zero, List.set_cons_succ]
                  refine wpAnyH_ready (rs := [14]) (by kernel_rfl) (by simp) ?_
                  refine AllReadyH.cons rfl (fun K hK => ?_) AllReadyH.nil
                  refine stp_ints rfl (.tmp 40) (.tmp 43) 27 rfl elemInt rfl o7 (Nat.le_trans hlw b7.size) rfl r7 (by simp; omega) ?_
                  intro v8 w8 ho8 hb8
                  have o8 := own_more ho8 rfl
                  have b8 := b7.trans hb8
                  refine hK.out _ _ (hfc.out _ b8) (fun _ => ?_)
                  clear hK K
                  try simp only [List.getElem_toArray, List.getElem_cons_succ, List.getElem_cons_zero, Act.put, List.setIfInBounds_toArray, List.set_cons_zero, List.set_cons_succ]
                  refine wpAnyH_take (i := 15) (v := v8) rfl (by kernel_rfl) (by kernel_rfl) (by kernel_rfl) (fun _ _ _ h => h) (Or.inl ⟨by rfl, by intro wx hx; go_simp⟩) (by assumption) ?_
                  try simp only [List.getElem_toArray, List.getElem_cons_succ, List.getElem_cons_zero, Act.put, List.setIfInBounds_toArray, List.set_cons_zero, List.set_cons_succ]
                  refine wpAnyH_done (by kernel_rfl) ?_ _
                  go_wp2_with fail
                  go_roundw
                  case rel => exact ⟨i + 1, by omega, by go_num, by rw [hstop.out]; exact o8.sub (List.Sublist.cons_cons _ (List.nil_sublist _)), b8⟩
                  case measure => simp [intOf]; omega
              · have oL := ownd.lit 3 1 1 #[.int .i64 x] hlB (by unfold maxLen; omega) rfl
                have bL : Below B w (wd.alloc (.cells #[.int .i64 x] 3)) := bd.alloc hlB _
                go_simp
                refine hK.out _ _ (hfc.out _ bL) (fun _ => ?_)
                clear hK K
                try simp only [List.getElem_toArray, List.getElem_cons_succ, List.getElem_cons_zero, Act.put, List.setIfInBounds_toArray, List.set_cons_zero, List.set_cons_succ]
                generalize wd.alloc (.cells #[.int .i64 x] 3) = wL at *
                generalize wd.heap.size = gl at *
                have hlL : B ≤ wL.heap.size := Nat.le_trans hlw bL.size
                refine wpAnyH_ready (rs := [0]) (by kernel_rfl) (by simp) ?_
                refine AllReadyH.cons rfl (fun K hK => ?_) AllReadyH.nil
                go_simp
                have o5 := oL.lit 3 1 0 #[] hlL (by unfold maxLen; omega) rfl
                have b5 : Below B w (wL.alloc (.cells #[] 3)) := bL.alloc hlL _
                refine hK.out _ _ (hfc.out _ b5) (fun _ => ?_)
                clear hK K
                try simp only [List.getElem_toArray, List.getElem_cons_succ, List.getElem_cons_zero, Act.put, List.setIfInBounds_toArray, List.set_cons_zero, List.set_cons_succ]
                generalize wL.alloc (.cells #[] 3) = w5 at *
                generalize wL.heap.size = gE at *
                refine wpAnyH_ready (rs := [4]) (by kernel_rfl) (by simp) ?_
                refine AllReadyH.cons rfl (fun K hK => ?_) AllReadyH.nil
                refine stp_ints rfl (.tmp 30) (.tmp 33) 27 rfl elemInt rfl o5 (Nat.le_trans hlw b5.size) rfl (hrd.out _ o5.tail.tail).1 (by rw [htkl.out]; omega) ?_
                intro v4 w6 ho4 hb4
                have o6 := own_more (xs := []) ho4 rfl
                rw [List.nil_append] at o6
                obtain ⟨d4, n4, m4, hv4, hn4⟩ := own_formN o6
                subst hv4
                have b6 := b5.trans hb4
                refine hK.out _ _ (hfc.out _ b6) (fun _ => ?_)
                clear hK K
                try simp only [List.getElem_toArray, List.getElem_cons_succ, List.getElem_cons_zero, Act.put, List.setIfInBounds_toArray, List.set_cons_zero, List.set_cons_succ]
                have hcw6 := hfc.out _ b6
                refine wpAnyH_ready (rs := [10]) (by kernel_rfl) (by simp) ?_
                refine AllReadyH.cons rfl (fun K hK => ?_) AllReadyH.nil
                have c6 : w6.cell? ⟨gl, 0, none⟩ = some (.int .i64 x) := by
                  have h := o6.tail.head.cellAt 0 (show 0 < 1 * 1 by omega)
                  simpa using h
                refine stp_one rfl (.tmp 34) (.tmp 39) 27 rfl elemInt rfl o6 (Nat.le_trans hlw b6.size) (us := [.int .i64 x]) rfl rfl ?_ (by intro u hu; simp at hu; subst hu; rfl) (by simp; omega) (by simp; omega) ?_
                · intro jj u hj
                  match jj, hj with
                  | 0, hj => simp at hj; subst hj; exact c6
                intro v7 w7 ho7 hb7
                have o7 := own_grow1 ho7 rfl
                have b7 := b6.trans hb7
                obtain ⟨d7, n7, m7, hv7, hn7⟩ := own_formN o7
                subst hv7
                have r7 := (hrd.out _ o7.tail.tail).2
                refine hK.out _ _ (hfc.out _ b7) (fun _ => ?_)
                clear hK K
                try simp only [List.getElem_toArray, List.getElem_cons_succ, List.getElem_cons_zero, Act.put, List.setIfInBounds_toArray, List.set_cons_zero, List.set_cons_succ]
                refine wpAnyH_ready (rs := [14]) (by kernel_rfl) (by simp) ?_
                refine AllReadyH.cons rfl (fun K hK => ?_) AllReadyH.nil
                refine stp_ints rfl (.tmp 40) (.tmp 43) 27 rfl elemInt rfl o7 (Nat.le_trans hlw b7.size) rfl r7 (by simp; omega) ?_
                intro v8 w8 ho8 hb8
                have o8 := own_more ho8 rfl
                have b8 := b7.trans hb8
                refine hK.out _ _ (hfc.out _ b8) (fun _ => ?_)
                clear hK K
                try simp only [List.getElem_toArray, List.getElem_cons_succ, List.getElem_cons_zero, Act.put, List.setIfInBounds_toArray, List.set_cons_zero, List.set_cons_succ]
                refine wpAnyH_take (i := 15) (v := v8) rfl (by kernel_rfl) (by kernel_rfl) (by kernel_rfl) (fun _ _ _ h => h) (Or.inl ⟨by rfl, by intro wx hx; go_simp⟩) (by assumption) ?_
                try simp only [List.getElem_toArray, List.getElem_cons_succ, List.getElem_cons_zero, Act.put, List.setIfInBounds_toArray, List.set_cons_zero, List.set_cons_succ]
                refine wpAnyH_done (by kernel_rfl) ?_ _
                go_wp2_with fail
                go_roundw
                case rel => exact ⟨i + 1, by omega, by go_num, by rw [hstop.out]; exact o8.sub (List.Sublist.cons_cons _ (List.nil_sublist _)), b8⟩
                case measure => simp [intOf]; omega
            · obtain ⟨g, rfl⟩ : ∃ g, dO = some ⟨g, 0, none⟩ := hform (by omega)
              have hrd := hid (show ∀ z, Own z B [intRowOf 3 (.slice (some ⟨g, 0, none⟩) O.length mO) O] → IsInts z (.slice (some ⟨g, 0, none⟩) k mO) (O.take k) ∧ IsInts z (.slice (some ⟨g, k, none⟩) (O.length - k) (mO - k)) (O.drop k) from fun z hz => by
                have h := hz.reads (by unfold Short; omega) hai.out
                refine ⟨h.cut hk, ?_⟩
                rw [hdr.out, hz0.out]
                exact ints_zero _ _ _)
              have hk1 : k ≤ mO := by omega
              have hk2 : ¬ mO < k := by omega
              have hk5 : ¬ mO < O.length := by omega
              go_wp2_with (go_quiet (fail))
              refine region_held_from (w0 := wq) (S := fun u => u.cell? ⟨ba, oa + i, none⟩ = some (.int .i64 x)) (by kernel_rfl) (fun u hu => hu.cell hca) (fun wd ed hHeld0 => ?_)
              have ownd := ownq.ext (w' := wd)
              have bd : Below B w wd := bq.trans (ed.below.mono (Nat.le_trans hlw bq.size))
              have hlB : B ≤ wd.heap.size := Nat.le_trans hlw bd.size
              have hfc := hid (show ∀ u, Below B w u → u.cell? ⟨ba, oa + i, none⟩ = some (.int .i64 x) from fun u hu => by
                have e1 : Ext w0 u := Ext.trans ‹Ext w0 w› (hEx.out _ hu)
                obtain ⟨b', o', hq', hc'⟩ := ha'.at (w' := u) hlt
                cases hq'
                rw [← hx] at hc'
                exact hc')
              replace hx := hid hx
              refine wpAnyH_take (i := 1) (v := .slice (some ⟨g, 0, none⟩) O.length mO) rfl (by kernel_rfl) (by kernel_rfl) (by kernel_rfl) (fun _ _ _ h => h) (Or.inl ⟨by rfl, by intro wx hx; go_simp⟩) (by assumption) ?_
              try simp only [List.getElem_toArray, List.getElem_cons_succ, List.getElem_cons_zero, Act.put, List.setIfInBounds_toArray, List.set_cons_zero, List.set_cons_succ]
              refine wpAnyH_take (i := 2) (v := .int .i64 k) rfl (by kernel_rfl) (by kernel_rfl) (by kernel_rfl) (fun _ _ _ h => h) (Or.inl ⟨by rfl, by intro wx hx; go_simp⟩) (by assumption) ?_
              try simp only [List.getElem_toArray, List.getElem_cons_succ, List.getElem_cons_zero, Act.put, List.setIfInBounds_toArray, List.set_cons_zero, List.set_cons_succ]
              refine wpAnyH_take (i := 3) (v := .slice (some ⟨g, 0, none⟩) k mO) rfl (by kernel_rfl) (by kernel_rfl) (by kernel_rfl) (fun _ _ _ h => h) (Or.inl ⟨by rfl, by intro wx hx; go_simp⟩) (by assumption) ?_
              try simp only [List.getElem_toArray, List.getElem_cons_succ, List.getElem_cons_zero, Act.put, List.setIfInBounds_toArray, List.set_cons_zero, List.set_cons_succ]
              refine wpAnyH_take (i := 5) (v := .slice (some ⟨ba, oa, none⟩) a.length ma) rfl (by kernel_rfl) (by kernel_rfl) (by kernel_rfl) (fun _ _ _ h => h) (Or.inl ⟨by rfl, by intro wx hx; go_simp⟩) (by assumption) ?_
              try simp only [List.getElem_toArray, List.getElem_cons_succ, List.getElem_cons_zero, Act.put, List.setIfInBounds_toArray, List.set_cons_zero, List.set_cons_succ]
              refine wpAnyH_take (i := 6) (v := .int .i64 i) rfl (by kernel_rfl) (by kernel_rfl) (by kernel_rfl) (fun _ _ _ h => h) (Or.inl ⟨by rfl, by intro wx hx; go_simp⟩) (by assumption) ?_
              try simp only [List.getElem_toArray, List.getElem_cons_succ, List.getElem_cons_zero, Act.put, List.setIfInBounds_toArray, List.set_cons_zero, List.set_cons_succ]
              refine wpAnyH_take (i := 7) (v := .pointer (some ⟨ba, oa + i, none⟩)) rfl (by kernel_rfl) (by kernel_rfl) (by kernel_rfl) (fun _ _ _ h => h) (Or.inl ⟨by rfl, by intro wx hx; go_simp⟩) (by assumption) ?_
              try simp only [List.getElem_toArray, List.getElem_cons_succ, List.getElem_cons_zero, Act.put, List.setIfInBounds_toArray, List.set_cons_zero, List.set_cons_succ]
              refine wpAnyH_take (i := 8) (v := .int .i64 x) rfl (by kernel_rfl) (by kernel_rfl) (by kernel_rfl) (fun _ _ _ h => h) (Or.inl ⟨by rfl, by intro wx hx; go_simp⟩) (by assumption) ?_
              try simp only [List.getElem_toArray, List.getElem_cons_succ, List.getElem_cons_zero, Act.put, List.setIfInBounds_toArray, List.set_cons_zero, List.set_cons_succ]
              refine wpAnyH_take (i := 11) (v := .slice (some ⟨g, 0, none⟩) O.length mO) rfl (by kernel_rfl) (by kernel_rfl) (by kernel_rfl) (fun _ _ _ h => h) (Or.inl ⟨by rfl, by intro wx hx; go_simp⟩) (by assumption) ?_
              try simp only [List.getElem_toArray, List.getElem_cons_succ, List.getElem_cons_zero, Act.put, List.setIfInBounds_toArray, List.set_cons_zero, List.set_cons_succ]
              refine wpAnyH_take (i := 12) (v := .int .i64 k) rfl (by kernel_rfl) (by kernel_rfl) (by kernel_rfl) (fun _ _ _ h => h) (Or.inl ⟨by rfl, by intro wx hx; go_simp⟩) (by assumption) ?_
              try simp only [List.getElem_toArray, List.getElem_cons_succ, List.getElem_cons_zero, Act.put, List.setIfInBounds_toArray, List.set_cons_zero, List.set_cons_succ]
              refine wpAnyH_take (i := 13) (v := .slice (some ⟨g, k, none⟩) (O.length - k) (mO - k)) rfl (by kernel_rfl) (by kernel_rfl) (by kernel_rfl) (fun _ _ _ h => h) (Or.inl ⟨by rfl, by intro wx hx; go_simp⟩) (by assumption) ?_
              try simp only [List.getElem_toArray, List.getElem_cons_succ, List.getElem_cons_zero, Act.put, List.setIfInBounds_toArray, List.set_cons_zero, List.set_cons_succ]
              refine wpAnyH_ready (rs := [0, 9]) (by kernel_rfl) (by simp) ?_
              refine AllReadyH.cons rfl (fun K hK => ?_) (AllReadyH.cons rfl (fun K hK => ?_) AllReadyH.nil)
              · go_simp
                have oE := ownd.lit 3 1 0 #[] hlB (by unfold maxLen; omega) rfl
                have bE : Below B w (wd.alloc (.cells #[] 3)) := bd.alloc hlB _
                refine hK.out _ _ (hfc.out _ bE) (fun _ => ?_)
                clear hK K
                try simp only [List.getElem_toArray, List.getElem_cons_succ, List.getElem_cons_zero, Act.put, List.setIfInBounds_toArray, List.set_cons_zero, List.set_cons_succ]
                generalize wd.alloc (.cells #[] 3) = wE at *
                generalize wd.heap.size = gE at *
                have hlE : B ≤ wE.heap.size := Nat.le_trans hlw bE.size
                refine wpAnyH_ready (rs := [4, 9]) (by kernel_rfl) (by simp) ?_
                refine AllReadyH.cons rfl (fun K hK => ?_) (AllReadyH.cons rfl (fun K hK => ?_) AllReadyH.nil)
                · refine stp_ints rfl (.tmp 30) (.tmp 33) 27 rfl elemInt rfl oE hlE rfl (hrd.out _ oE.tail).1 (by rw [htkl.out]; omega) ?_
                  intro v4 w4 ho4 hb4
                  have o4 : Own w4 B (intRowOf 3 v4 (O.take k) :: [intRowOf 3 (.slice (some ⟨g, 0, none⟩) O.length mO) O]) := by
                    have h := own_more (xs := []) ho4 rfl
                    rwa [List.nil_append] at h
                  obtain ⟨d4, n4, m4, hv4, hn4⟩ := own_formN o4
                  subst hv4
                  have b4 := bE.trans hb4
                  have hl4 : B ≤ w4.heap.size := Nat.le_trans hlw b4.size
                  refine hK.out _ _ (hfc.out _ b4) (fun _ => ?_)
                  clear hK K
                  try simp only [List.getElem_toArray, List.getElem_cons_succ, List.getElem_cons_zero, Act.put, List.setIfInBounds_toArray, List.set_cons_zero, List.set_cons_succ]
                  refine wpAnyH_ready (rs := [9]) (by kernel_rfl) (by simp) ?_
                  refine AllReadyH.cons rfl (fun K hK => ?_) AllReadyH.nil
                  go_simp
                  have oL := o4.lit 3 1 1 #[.int .i64 x] hl4 (by unfold maxLen; omega) rfl
                  have b6 : Below B w (w4.alloc (.cells #[.int .i64 x] 3)) := b4.alloc hl4 _
                  refine hK.out _ _ (hfc.out _ b6) (fun _ => ?_)
                  clear hK K
                  try simp only [List.getElem_toArray, List.getElem_cons_succ, List.getElem_cons_zero, Act.put, List.setIfInBounds_toArray, List.set_cons_zero, List.set_cons_succ]
                  generalize w4.alloc (.cells #[.int .i64 x] 3) = w6 at *
                  generalize w4.heap.size = gl at *
                  have o6 := oL.perm (List.Perm.swap _ _ _)
                  have hcw6 := hfc.out _ b6
                  refine wpAnyH_ready (rs := [10]) (by kernel_rfl) (by simp) ?_
                  refine AllReadyH.cons rfl (fun K hK => ?_) AllReadyH.nil
                  have c6 : w6.cell? ⟨gl, 0, none⟩ = some (.int .i64 x) := by
                    have h := o6.tail.head.cellAt 0 (show 0 < 1 * 1 by omega)
                    simpa using h
                  refine stp_one rfl (.tmp 34) (.tmp 39) 27 rfl elemInt rfl o6 (Nat.le_trans hlw b6.size) (us := [.int .i64 x]) rfl rfl ?_ (by intro u hu; simp at hu; subst hu; rfl) (by simp; omega) (by simp; omega) ?_
                  · intro jj u hj
                    match jj, hj with
                    | 0, hj => simp at hj; subst hj; exact c6
                  intro v7 w7 ho7 hb7
                  have o7 := own_grow1 ho7 rfl
                  have b7 := b6.trans hb7
                  obtain ⟨d7, n7, m7, hv7, hn7⟩ := own_formN o7
                  subst hv7
                  have r7 := (hrd.out _ o7.tail.tail).2
                  refine hK.out _ _ (hfc.out _ b7) (fun _ => ?_)
                  clear hK K
                  try simp only [List.getElem_toArray, List.getElem_cons_succ, List.getElem_cons_zero, Act.put, List.setIfInBounds_toArray, List.set_cons_zero, List.set_cons_succ]
                  refine wpAnyH_ready (rs := [14]) (by kernel_rfl) (by simp) ?_
                  refine AllReadyH.cons rfl (fun K hK => ?_) AllReadyH.nil
                  refine stp_ints rfl (.tmp 40) (.tmp 43) 27 rfl elemInt rfl o7 (Nat.le_trans hlw b7.size) rfl r7 (by simp; omega) ?_
                  intro v8 w8 ho8 hb8
                  have o8 := own_more ho8 rfl
                  have b8 := b7.trans hb8
                  refine hK.out _ _ (hfc.out _ b8) (fun _ => ?_)
                  clear hK K
                  try simp only [List.getElem_toArray, List.getElem_cons_succ, List.getElem_cons_zero, Act.put, List.setIfInBounds_toArray, List.set_cons_zero, List.set_cons_succ]
                  refine wpAnyH_take (i := 15) (v := v8) rfl (by kernel_rfl) (by kernel_rfl) (by kernel_rfl) (fun _ _ _ h => h) (Or.inl ⟨by rfl, by intro wx hx; go_simp⟩) (by assumption) ?_
                  try simp only [List.getElem_toArray, List.getElem_cons_succ, List.getElem_cons_zero, Act.put, List.setIfInBounds_toArray, List.set_cons_zero, List.set_cons_succ]
                  refine wpAnyH_done (by kernel_rfl) ?_ _
                  go_wp2_with fail
                  go_roundw
                  case rel => exact ⟨i + 1, by omega, by go_num, by rw [hstop.out]; exact o8.sub (List.Sublist.cons_cons _ (List.nil_sublist _)), b8⟩
                  case measure => simp [intOf]; omega
                · have oL := oE.lit 3 1 1 #[.int .i64 x] hlE (by unfold maxLen; omega) rfl
                  have b5 : Below B w (wE.alloc (.cells #[.int .i64 x] 3)) := bE.alloc hlE _
                  go_simp
                  refine hK.out _ _ (hfc.out _ b5) (fun _ => ?_)
                  clear hK K
                  try simp only [List.getElem_toArray, List.getElem_cons_succ, List.getElem_cons_zero, Act.put, List.setIfInBounds_toArray, List.set_cons_zero, List.set_cons_succ]
                  generalize wE.alloc (.cells #[.int .i64 x] 3) = w5 at *
                  generalize wE.heap.size = gl at *
                  have o5 := oL.perm (List.Perm.swap _ _ _)
                  refine wpAnyH_ready (rs := [4]) (by kernel_rfl) (by simp) ?_
                  refine AllReadyH.cons rfl (fun K hK => ?_) AllReadyH.nil
                  refine stp_ints rfl (.tmp 30) (.tmp 33) 27 rfl elemInt rfl o5 (Nat.le_trans hlw b5.size) rfl (hrd.out _ o5.tail.tail).1 (by rw [htkl.out]; omega) ?_
                  intro v4 w6 ho4 hb4
                  have o6 := own_more (xs := []) ho4 rfl
                  rw [List.nil_append] at o6
                  obtain ⟨d4, n4, m4, hv4, hn4⟩ := own_formN o6
                  subst hv4
                  have b6 := b5.trans hb4
                  refine hK.out _ _ (hfc.out _ b6) (fun _ => ?_)
                  clear hK K
                  try simp only [List.getElem_toArray, List.getElem_cons_succ, List.getElem_cons_zero, Act.put, List.setIfInBounds_toArray, List.set_cons_zero, List.set_cons_succ]
                  have hcw6 := hfc.out _ b6
                  refine wpAnyH_ready (rs := [10]) (by kernel_rfl) (by simp) ?_
                  refine AllReadyH.cons rfl (fun K hK => ?_) AllReadyH.nil
                  have c6 : w6.cell? ⟨gl, 0, none⟩ = some (.int .i64 x) := by
                    have h := o6.tail.head.cellAt 0 (show 0 < 1 * 1 by omega)
                    simpa using h
                  refine stp_one rfl (.tmp 34) (.tmp 39) 27 rfl elemInt rfl o6 (Nat.le_trans hlw b6.size) (us := [.int .i64 x]) rfl rfl ?_ (by intro u hu; simp at hu; subst hu; rfl) (by simp; omega) (by simp; omega) ?_
                  · intro jj u hj
                    match jj, hj with
                    | 0, hj => simp at hj; subst hj; exact c6
                  intro v7 w7 ho7 hb7
                  have o7 := own_grow1 ho7 rfl
                  have b7 := b6.trans hb7
                  obtain ⟨d7, n7, m7, hv7, hn7⟩ := own_formN o7
                  subst hv7
                  have r7 := (hrd.out _ o7.tail.tail).2
                  refine hK.out _ _ (hfc.out _ b7) (fun _ => ?_)
                  clear hK K
                  try simp only [List.getElem_toArray, List.getElem_cons_succ, List.getElem_cons_zero, Act.put, List.setIfInBounds_toArray, List.set_cons_zero, List.set_cons_succ]
                  refine wpAnyH_ready (rs := [14]) (by kernel_rfl) (by simp) ?_
                  refine AllReadyH.cons rfl (fun K hK => ?_) AllReadyH.nil
                  refine stp_ints rfl (.tmp 40) (.tmp 43) 27 rfl elemInt rfl o7 (Nat.le_trans hlw b7.size) rfl r7 (by simp; omega) ?_
                  intro v8 w8 ho8 hb8
                  have o8 := own_more ho8 rfl
                  have b8 := b7.trans hb8
                  refine hK.out _ _ (hfc.out _ b8) (fun _ => ?_)
                  clear hK K
                  try simp only [List.getElem_toArray, List.getElem_cons_succ, List.getElem_cons_zero, Act.put, List.setIfInBounds_toArray, List.set_cons_zero, List.set_cons_succ]
                  refine wpAnyH_take (i := 15) (v := v8) rfl (by kernel_rfl) (by kernel_rfl) (by kernel_rfl) (fun _ _ _ h => h) (Or.inl ⟨by rfl, by intro wx hx; go_simp⟩) (by assumption) ?_
                  try simp only [List.getElem_toArray, List.getElem_cons_succ, List.getElem_cons_zero, Act.put, List.setIfInBounds_toArray, List.set_cons_zero, List.set_cons_succ]
                  refine wpAnyH_done (by kernel_rfl) ?_ _
                  go_wp2_with fail
                  go_roundw
                  case rel => exact ⟨i + 1, by omega, by go_num, by rw [hstop.out]; exact o8.sub (List.Sublist.cons_cons _ (List.nil_sublist _)), b8⟩
                  case measure => simp [intOf]; omega
              · have oL := ownd.lit 3 1 1 #[.int .i64 x] hlB (by unfold maxLen; omega) rfl
                have bL : Below B w (wd.alloc (.cells #[.int .i64 x] 3)) := bd.alloc hlB _
                go_simp
                refine hK.out _ _ (hfc.out _ bL) (fun _ => ?_)
                clear hK K
                try simp only [List.getElem_toArray, List.getElem_cons_succ, List.getElem_cons_zero, Act.put, List.setIfInBounds_toArray, List.set_cons_zero, List.set_cons_succ]
                generalize wd.alloc (.cells #[.int .i64 x] 3) = wL at *
                generalize wd.heap.size = gl at *
                have hlL : B ≤ wL.heap.size := Nat.le_trans hlw bL.size
                refine wpAnyH_ready (rs := [0]) (by kernel_rfl) (by simp) ?_
                refine AllReadyH.cons rfl (fun K hK => ?_) AllReadyH.nil
                go_simp
                have o5 := oL.lit 3 1 0 #[] hlL (by unfold maxLen; omega) rfl
                have b5 : Below B w (wL.alloc (.cells #[] 3)) := bL.alloc hlL _
                refine hK.out _ _ (hfc.out _ b5) (fun _ => ?_)
                clear hK K
                try simp only [List.getElem_toArray, List.getElem_cons_succ, List.getElem_cons_zero, Act.put, List.setIfInBounds_toArray, List.set_cons_zero, List.set_cons_succ]
                generalize wL.alloc (.cells #[] 3) = w5 at *
                generalize wL.heap.size = gE at *
                refine wpAnyH_ready (rs := [4]) (by kernel_rfl) (by simp) ?_
                refine AllReadyH.cons rfl (fun K hK => ?_) AllReadyH.nil
                refine stp_ints rfl (.tmp 30) (.tmp 33) 27 rfl elemInt rfl o5 (Nat.le_trans hlw b5.size) rfl (hrd.out _ o5.tail.tail).1 (by rw [htkl.out]; omega) ?_
                intro v4 w6 ho4 hb4
                have o6 := own_more (xs := []) ho4 rfl
                rw [List.nil_append] at o6
                obtain ⟨d4, n4, m4, hv4, hn4⟩ := own_formN o6
                subst hv4
                have b6 := b5.trans hb4
                refine hK.out _ _ (hfc.out _ b6) (fun _ => ?_)
                clear hK K
                try simp only [List.getElem_toArray, List.getElem_cons_succ, List.getElem_cons_zero, Act.put, List.setIfInBounds_toArray, List.set_cons_zero, List.set_cons_succ]
                have hcw6 := hfc.out _ b6
                refine wpAnyH_ready (rs := [10]) (by kernel_rfl) (by simp) ?_
                refine AllReadyH.cons rfl (fun K hK => ?_) AllReadyH.nil
                have c6 : w6.cell? ⟨gl, 0, none⟩ = some (.int .i64 x) := by
                  have h := o6.tail.head.cellAt 0 (show 0 < 1 * 1 by omega)
                  simpa using h
                refine stp_one rfl (.tmp 34) (.tmp 39) 27 rfl elemInt rfl o6 (Nat.le_trans hlw b6.size) (us := [.int .i64 x]) rfl rfl ?_ (by intro u hu; simp at hu; subst hu; rfl) (by simp; omega) (by simp; omega) ?_
                · intro jj u hj
                  match jj, hj with
                  | 0, hj => simp at hj; subst hj; exact c6
                intro v7 w7 ho7 hb7
                have o7 := own_grow1 ho7 rfl
                have b7 := b6.trans hb7
                obtain ⟨d7, n7, m7, hv7, hn7⟩ := own_formN o7
                subst hv7
                have r7 := (hrd.out _ o7.tail.tail).2
                refine hK.out _ _ (hfc.out _ b7) (fun _ => ?_)
                clear hK K
                try simp only [List.getElem_toArray, List.getElem_cons_succ, List.getElem_cons_zero, Act.put, List.setIfInBounds_toArray, List.set_cons_zero, List.set_cons_succ]
                refine wpAnyH_ready (rs := [14]) (by kernel_rfl) (by simp) ?_
                refine AllReadyH.cons rfl (fun K hK => ?_) AllReadyH.nil
                refine stp_ints rfl (.tmp 40) (.tmp 43) 27 rfl elemInt rfl o7 (Nat.le_trans hlw b7.size) rfl r7 (by simp; omega) ?_
                intro v8 w8 ho8 hb8
                have o8 := own_more ho8 rfl
                have b8 := b7.trans hb8
                refine hK.out _ _ (hfc.out _ b8) (fun _ => ?_)
                clear hK K
                try simp only [List.getElem_toArray, List.getElem_cons_succ, List.getElem_cons_zero, Act.put, List.setIfInBounds_toArray, List.set_cons_zero, List.set_cons_succ]
                refine wpAnyH_take (i := 15) (v := v8) rfl (by kernel_rfl) (by kernel_rfl) (by kernel_rfl) (fun _ _ _ h => h) (Or.inl ⟨by rfl, by intro wx hx; go_simp⟩) (by assumption) ?_
                try simp only [List.getElem_toArray, List.getElem_cons_succ, List.getElem_cons_zero, Act.put, List.setIfInBounds_toArray, List.set_cons_zero, List.set_cons_succ]
                refine wpAnyH_done (by kernel_rfl) ?_ _
                go_wp2_with fail
                go_roundw
                case rel => exact ⟨i + 1, by omega, by go_num, by rw [hstop.out]; exact o8.sub (List.Sublist.cons_cons _ (List.nil_sublist _)), b8⟩
                case measure => simp [intOf]; omega
    · have hil : i = a.length := by omega
      have hfin := hid (show sortL (a.take i) = sortL a by rw [hil, List.take_length])
      replace hil := hid hil
      go_wp2_with fail
      go_ret
      refine ⟨_, rfl, ?_, hEx.out _ hb⟩
      rw [← hfin.out, ← hB.out]
      exact own
end Go.Proofs.YtllfchcocgdcjaaGreat
