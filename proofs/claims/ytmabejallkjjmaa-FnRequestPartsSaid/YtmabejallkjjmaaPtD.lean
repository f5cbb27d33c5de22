/- The arguments of FnRequestParts, drawn. -/
import Derived.Test.YtmabejallkjjmaaPtP
import Derived.Test.YtmabejallkjjmaaReq
import Derived.Test.YtmabejallkjjmaaGrC
import Derived.Test.YtmabejallkjjmaaSrs
import Derived.Test.YtmabejallkjjmaaDel
import Derived.Test.YtmabejallkjjmaaPgD
namespace Go.Proofs.Ytmabejallkjjmaa
open Go.RowKit

set_option maxHeartbeats 800000 in
set_option maxRecDepth 100000 in
theorem items_any {w0 w : World} [Ext w0 w] {vc : Value} {nb : Nat} (hc : IsBytes w0 vc nb) {B c : Nat} {a : Int} {R : List Row} (own : CurAt w B c vc a R) (hwB : w0.heap.size ≤ B) (ha : 0 ≤ a) (ha2 : a ≤ 2000000) :
    Calls Try.prog 80 #[.pointer (some ⟨c, 0, none⟩)] w fun e w' => ∃ n a' : Int, e = .returned (.int .i64 n) ∧ (-1 ≤ n ∧ n ≤ 9) ∧ a ≤ a' ∧ a' ≤ a + 10 ∧ CurAt w' B c vc a' R ∧ Below B w w' := by
  have hBw := own.size
  have oL := own.lit (e := 3) [3, 4, 5, 2, 6, 8, 1, 0, 9, -1] hBw rfl rfl (by decide)
  have bL : Below B w (w.alloc (.cells #[.int .i64 3, .int .i64 4, .int .i64 5, .int .i64 2, .int .i64 6, .int .i64 8, .int .i64 1, .int .i64 0, .int .i64 9, .int .i64 (-1)] 3)) := (Below.refl B w).alloc hBw _
  go_enter Try.func80, Try.ntmps80
  go_wp2_with fail
  refine (pick_any (w0 := w0) hc oL hwB (by omega) (by omega)).mono ?_
  rintro e w2 ⟨x, a2, rfl, hx0, hx1, hx2, h2a, h2b, own2, b2⟩
  have hx3 := hx2 (by omega)
  have hdiv : x.tdiv 8 = x / 8 := Int.tdiv_eq_ediv_of_nonneg hx0
  obtain ⟨k, hk⟩ : ∃ k : Nat, 7 + x / 8 = k := ⟨(7 + x / 8).toNat, by omega⟩
  have hk1 : 7 ≤ k ∧ k ≤ 9 := by omega
  obtain ⟨g, hg⟩ : ∃ g, g = w.heap.size := ⟨_, rfl⟩
  rw [← hg] at own2 ⊢
  have b2' := bL.trans b2
  replace hg := hid hg
  have own3 : CurAt w2 B c vc a2 (intRowOf 3 (.slice (some ⟨g, 0, none⟩) k 10) (([3, 4, 5, 2, 6, 8, 1, 0, 9, -1] : List Int).take k) :: R) := by
    obtain ⟨s, h⟩ := own2
    have h1 := (h.perm (List.Perm.swap _ _ _)).cut (k := k) (by show k ≤ 10; omega)
    refine ⟨s, ?_⟩
    have h2 := h1.perm (List.Perm.swap _ _ _)
    have hl : (([3, 4, 5, 2, 6, 8, 1, 0, 9, -1] : List Int).take k).length = k := by rw [List.length_take]; simp; omega
    unfold intRowOf
    rw [hl, List.map_take]
    exact h2
  have e2 : Ext w0 w2 := ⟨(‹Ext w0 w›).below.trans (b2'.mono hwB)⟩
  clear hx2 oL bL own2
  go_wp2_with fail
  refine (among_any (w0 := w0) hc own3 hwB (by omega) (by omega) (by rw [List.length_take]; simp; omega) (by rw [List.length_take]; omega)).mono ?_
  rintro e w4 ⟨y, a4, rfl, hy, h4a, h4b, own4, b4⟩
  have hyb : -1 ≤ y ∧ y ≤ 9 := by
    have h := List.mem_of_mem_take hy
    simp at h
    omega
  go_wp2_with fail
  go_ret
  exact ⟨y, a4, rfl, hyb, by omega, by omega, own4.drop, b2'.trans b4⟩

set_option maxHeartbeats 3200000 in
set_option maxRecDepth 100000 in
theorem order3_any {w0 w : World} [Ext w0 w] {vc : Value} {nb : Nat} (hc : IsBytes w0 vc nb) {B c : Nat} {a : Int} {R : List Row} (own : CurAt w B c vc a R) (hwB : w0.heap.size ≤ B) (ha : 0 ≤ a) (ha2 : a ≤ 2000000) {n : Int} (_hn : -10 ≤ n ∧ n ≤ 1000) :
    Calls Try.prog 91 #[.pointer (some ⟨c, 0, none⟩), .int .i64 n] w fun e w' => ∃ v X a', e = .returned v ∧ X.length ≤ 100 ∧ (∀ x ∈ X, -10 ≤ x ∧ x ≤ 1000) ∧ a ≤ a' ∧ a' ≤ a + 100 ∧ CurAt w' B c vc a' (intRowOf 3 v X :: R) ∧ Below B w w' := by
  have hB0 := own.size
  have hE := hid (show ∀ u, Below B w u → Ext w0 u from fun u h => ⟨(‹Ext w0 w›).below.trans (h.mono hwB)⟩)
  have own1 := own.lit (e := 3) [] hB0 rfl rfl (by decide)
  have b1 : Below B w (w.alloc (.cells #[] 3)) := (Below.refl B w).alloc hB0 _
  go_enter Try.func91, Try.ntmps91
  go_upto_region 2 with fail
  generalize w.alloc (.cells #[] 3) = w1 at *
  go_wp2_with fail
  obtain ⟨M, hM⟩ : ∃ M, M = minB id n 8 := ⟨_, rfl⟩
  have hM8 : M ≤ 8 := by rw [hM]; unfold minB; split <;> simp_all <;> omega
  have hmin := fun u => l1Least_any n 8 u
  rw [← hM] at hmin
  replace hmin := hid hmin
  replace hM := hid hM
  go_loopw [5, 6] (fun u iv wr => ∃ (i : Nat) (v : Value) (O : List Int) (a' : Int), iv = .int .i64 i ∧ u = v ∧ i ≤ 8 ∧ O.length = i ∧ (∀ x ∈ O, 0 ≤ x ∧ x ≤ 8) ∧ a ≤ a' ∧ a' ≤ a + 2 * i ∧ CurAt wr B c vc a' (intRowOf 3 v O :: R) ∧ Below B w wr) (fun _ iv _ => 9 - (intOf iv).toNat)
  case atStart => exact ⟨0, _, [], a, rfl, rfl, by omega, rfl, by simp, by omega, by omega, own1, b1⟩
  case round =>
    clear own1 b1
    obtain ⟨i, v, O, a3, rfl, rfl, hi8, hOl, hOb, h3a, h3b, own3, b3⟩ := hrel
    obtain ⟨wo, rfl⟩ : ∃ y : World, y = wr := ⟨_, rfl⟩
    obtain ⟨dO, N, mO, rfl, hN⟩ := own_formN own3.rows
    have hNl := hid (show N = i by rw [hN.out, hOl])
    replace hOl := hid hOl
    have hN8 : N ≤ 8 := by have := hNl.out; omega
    have hcp : N ≤ mO := by
      have h := own3.rows
      rcases h.head.2 with ⟨h1, h2⟩ | ⟨g', cap, cur, h2, h3, h4, h5, _⟩
      · have h1' : Value.slice dO N mO = .slice none 0 0 := h1
        cases h1'; omega
      · have h2' : Value.slice dO N mO = .slice (some ⟨g', 0, none⟩) O.length cap := h2
        have h5' : O.length ≤ cap := h5
        cases h2'
        omega
    obtain ⟨s3, h3⟩ := RqAt.of own3
    have hf := own_some (n := N) (xs := O) (e := 3) (by have h := h3; unfold intRowOf at h; rw [← hN.out] at h; exact h)
    clear h3
    have e3 : Ext w0 wo := hE.out _ b3
    go_wp2_with fail
    with_reducible refine (hmin.out _).mono ?_
    rintro e w4 ⟨rfl, rfl⟩
    by_cases hlt : (i : Int) < M
    · have hle2 : i + 1 ≤ 8 := by omega
      go_wp2_with fail
      refine (pick_any (w0 := w0) hc own3 hwB (by omega) (by omega)).mono ?_
      rintro e w5 ⟨x, a5, rfl, hx0, hx1, hx2, h5a, h5b, own5, b5⟩
      have b5 := b3.trans b5
      obtain ⟨k, rfl⟩ := Int.eq_ofNat_of_zero_le hx0
      have hNl2 := hNl.out
      have hkN : k ≤ N := by have := hx2 (by omega); omega
      have hNO : N = O.length := hN.out
      replace hNO := hid hNO
      have hOb2 := hid (show ∀ y ∈ O.take k ++ [(i : Int)] ++ O.drop k, 0 ≤ y ∧ y ≤ 8 from fun y hy => by
        rcases List.mem_append.1 hy with h | h
        · rcases List.mem_append.1 h with h | h
          · exact hOb y (List.mem_of_mem_take h)
          · rw [List.mem_singleton.1 h]; omega
        · exact hOb y (List.mem_of_mem_drop h))
      have hOi := hid (show ∀ y ∈ O, I64 y from fun y hy => by have := hOb y hy; unfold I64; omega)
      have htkl : (O.take k).length = k := by rw [List.length_take]; have := hN.out; omega
      have hOl2 : O.length ≤ 8 := by have := hOl.out; omega
      have hB5 := own5.size
      obtain ⟨s5, h5⟩ := RqAt.of own5
      replace hlt := hid hlt
      have hk2 : ¬ mO < k := by omega
      have hk4 : ¬ N < k := by omega
      have hk5 : ¬ mO < N := by omega
      replace hNl2 := hid hNl2
      by_cases hkm : mO = k
      · have hNk : N = k := by omega
        have hk3 : ¬ k < N := by omega
        subst hkm
        have hrd := hid (show ∀ z L, Own z B (intRowOf 3 (.slice dO N mO) O :: L) → IsInts z (.slice dO mO mO) (O.take mO) ∧ IsInts z (.slice dO 0 0) (O.drop mO) from fun z L hz => by
          have h := hz.reads (by unfold Short; omega) hOi.out
          refine ⟨h.cut (by have := hN.out; omega), ?_⟩
          rw [List.drop_eq_nil_of_le (by have := hN.out; omega)]
          exact ints_zero _ _ _)
        replace hNk := hid hNk
        clear hf own5 own3
        go_upto_region 6 with fail
        refine region_held_from (w0 := w5) (S := fun _ => True) (by kernel_rfl) (fun _ _ => trivial) (fun wd ed hHeld0 => ?_)
        have ownd := h5.ext (w' := wd)
        have bd : Below B w wd := b5.trans (ed.below.mono hB5)
        have hlB : B ≤ wd.heap.size := Nat.le_trans hB0 bd.size
        refine wpAnyH_take (i := 0) (v := .slice dO N mO) rfl (by kernel_rfl) (by kernel_rfl) (by kernel_rfl) (fun _ _ _ h => h) (Or.inl ⟨by rfl, by intro wx hx; go_simp⟩) (by assumption) ?_
        try simp only [List.getElem_toArray, List.getElem_cons_zero, Act.put, List.setIfInBounds_toArray, List.set_cons_zero, List.set_cons_succ]
        refine wpAnyH_take (i := 1) (v := .int .i64 mO) rfl (by kernel_rfl) (by kernel_rfl) (by kernel_rfl) (fun _ _ _ h => h) (Or.inl ⟨by rfl, by intro wx hx; go_simp⟩) (by assumption) ?_
        try simp only [List.getElem_toArray, List.getElem_cons_succ, List.getElem_cons_zero, Act.put, List.setIfInBounds_toArray, List.set_cons_zero, List.set_cons_succ]
        refine wpAnyH_take (i := 2) (v := .slice dO mO mO) rfl (by kernel_rfl) (by kernel_rfl) (by kernel_rfl) (fun _ _ _ h => h) (Or.inl ⟨by rfl, by intro wx hx; go_simp⟩) (by assumption) ?_
        try simp only [List.getElem_toArray, List.getElem_cons_succ, List.getElem_cons_zero, Act.put, List.setIfInBounds_toArray, List.set_cons_zero, List.set_cons_succ]
        refine wpAnyH_take (i := 4) (v := .int .i64 i) rfl (by kernel_rfl) (by kernel_rfl) (by kernel_rfl) (fun _ _ _ h => h) (Or.inl ⟨by rfl, by intro wx hx; go_simp⟩) (by assumption) ?_
        try simp only [List.getElem_toArray, List.getElem_cons_succ, List.getElem_cons_zero, Act.put, List.setIfInBounds_toArray, List.set_cons_zero, List.set_cons_succ]
        refine wpAnyH_take (i := 7) (v := .slice dO N mO) rfl (by kernel_rfl) (by kernel_rfl) (by kernel_rfl) (fun _ _ _ h => h) (Or.inl ⟨by rfl, by intro wx hx; go_simp⟩) (by assumption) ?_
        try simp only [List.getElem_toArray, List.getElem_cons_succ, List.getElem_cons_zero, Act.put, List.setIfInBounds_toArray, List.set_cons_zero, List.set_cons_succ]
        refine wpAnyH_take (i := 8) (v := .int .i64 mO) rfl (by kernel_rfl) (by kernel_rfl) (by kernel_rfl) (fun _ _ _ h => h) (Or.inl ⟨by rfl, by intro wx hx; go_simp⟩) (by assumption) ?_
        try simp only [List.getElem_toArray, List.getElem_cons_succ, List.getElem_cons_zero, Act.put, List.setIfInBounds_toArray, List.set_cons_zero, List.set_cons_succ]
        refine wpAnyH_take (i := 9) (v := .slice dO 0 0) rfl (by kernel_rfl) (by kernel_rfl) (by kernel_rfl) (fun _ _ _ h => h) (Or.inl ⟨by rfl, by intro wx hx; go_simp⟩) (by assumption) ?_
        try simp only [List.getElem_toArray, List.getElem_cons_succ, List.getElem_cons_zero, Act.put, List.setIfInBounds_toArray, List.set_cons_zero, List.set_cons_succ]
        refine wpAnyH_ready (rs := [3, 5]) (by kernel_rfl) (by simp) ?_
        refine AllReadyH.cons rfl (fun K hK => ?_) (AllReadyH.cons rfl (fun K hK => ?_) AllReadyH.nil)
        · go_simp
          with_reducible refine (l1Own_any (w0 := wd) (w := wd) (hrd.out wd _ ownd).1).mono ?_
          rintro e wE ⟨d4, m4, rfl, ownE, eE⟩
          have oE := Own.join (w := wd) (w' := wE) ownd ownE hlB
          have bE : Below B w wE := bd.trans (eE.below.mono hlB)
          have hlE : B ≤ wE.heap.size := Nat.le_trans hB0 bE.size
          obtain ⟨N4, hN4⟩ : ∃ N4, N4 = (O.take mO).length := ⟨_, rfl⟩
          rw [← hN4] at oE ⊢
          replace hN4 := hid hN4
          refine hK.out _ _ trivial (fun _ => ?_)
          clear hK K
          try simp only [List.getElem_toArray, List.getElem_cons_succ, List.getElem_cons_zero, Act.put, List.setIfInBounds_toArray, List.set_cons_zero, List.set_cons_succ]
          refine wpAnyH_ready (rs := [5]) (by kernel_rfl) (by simp) ?_
          refine AllReadyH.cons rfl (fun K hK => ?_) AllReadyH.nil
          go_simp
          have oL := oE.lit 3 1 1 #[.int .i64 i] hlE (by unfold maxLen; omega) rfl
          have b6 : Below B w (wE.alloc (.cells #[.int .i64 i] 3)) := bE.alloc hlE _
          refine hK.out _ _ trivial (fun _ => ?_)
          clear hK K
          try simp only [List.getElem_toArray, List.getElem_cons_succ, List.getElem_cons_zero, Act.put, List.setIfInBounds_toArray, List.set_cons_zero, List.set_cons_succ]
          generalize wE.alloc (.cells #[.int .i64 i] 3) = w6 at *
          generalize wE.heap.size = gl at *
          have o6 := oL.perm (List.Perm.swap _ _ _)
          refine wpAnyH_ready (rs := [6]) (by kernel_rfl) (by simp) ?_
          refine AllReadyH.cons rfl (fun K hK => ?_) AllReadyH.nil
          have c6 : w6.cell? ⟨gl, 0, none⟩ = some (.int .i64 i) := by
            have h := o6.tail.head.cellAt 0 (show 0 < 1 * 1 by omega)
            simpa using h
          have hl6 : B ≤ w6.heap.size := Nat.le_trans hB0 b6.size
          refine stp_one rfl (.tmp 23) (.tmp 25) 27 rfl elemInt rfl o6 hl6 (us := [.int .i64 i]) rfl rfl ?_ (by intro u hu; simp at hu; subst hu; rfl) (by omega) (by omega) ?_
          · intro jj u hj
            match jj, hj with
            | 0, hj => simp at hj; subst hj; exact c6
          intro v7 w7 ho7 hb7
          have o7 := own_grow1 ho7 rfl
          have b7 := b6.trans hb7
          obtain ⟨d7, n7, m7, hv7, hn7⟩ := own_formN o7
          subst hv7
          have r7 := (hrd.out _ _ o7.tail.tail).2
          refine hK.out _ _ trivial (fun _ => ?_)
          clear hK K
          try simp only [List.getElem_toArray, List.getElem_cons_succ, List.getElem_cons_zero, Act.put, List.setIfInBounds_toArray, List.set_cons_zero, List.set_cons_succ]
          refine wpAnyH_ready (rs := [10]) (by kernel_rfl) (by simp) ?_
          refine AllReadyH.cons rfl (fun K hK => ?_) AllReadyH.nil
          refine stp_ints rfl (.tmp 26) (.tmp 29) 27 rfl elemInt rfl o7 (Nat.le_trans hB0 b7.size) rfl r7 (by simp only [List.length_append, List.length_singleton, List.length_drop]; omega) ?_
          intro v8 w8 ho8 hb8
          have o8 := own_more ho8 rfl
          have b8 := b7.trans hb8
          refine hK.out _ _ trivial (fun _ => ?_)
          clear hK K
          try simp only [List.getElem_toArray, List.getElem_cons_succ, List.getElem_cons_zero, Act.put, List.setIfInBounds_toArray, List.set_cons_zero, List.set_cons_succ]
          refine wpAnyH_take (i := 11) (v := v8) rfl (by kernel_rfl) (by kernel_rfl) (by kernel_rfl) (fun _ _ _ h => h) (Or.inl ⟨by rfl, by intro wx hx; go_simp⟩) (by assumption) ?_
          try simp only [List.getElem_toArray, List.getElem_cons_succ, List.getElem_cons_zero, Act.put, List.setIfInBounds_toArray, List.set_cons_zero, List.set_cons_succ]
          refine wpAnyH_done (by kernel_rfl) ?_ _
          have o9 := o8.sub (List.Sublist.cons_cons _ (List.Sublist.cons _ (List.sublist_cons_self _ _)))
          go_wp2_with fail
          go_roundw
          case rel => exact ⟨i + 1, v8, O.take mO ++ [(i : Int)] ++ O.drop mO, a5, by go_num, rfl, hle2, by rw [List.length_append, List.length_append, List.length_drop]; have := hOl.out; have := hN.out; simp only [List.length_singleton]; omega, hOb2.out, by omega, by omega, cur_back o9, b8⟩
          case measure => simp [intOf]; omega
        · go_simp
          have oL := ownd.lit 3 1 1 #[.int .i64 i] hlB (by unfold maxLen; omega) rfl
          have bL : Below B w (wd.alloc (.cells #[.int .i64 i] 3)) := bd.alloc hlB _
          have hlL : B ≤ (wd.alloc (.cells #[.int .i64 i] 3)).heap.size := Nat.le_trans hB0 bL.size
          refine hK.out _ _ trivial (fun _ => ?_)
          clear hK K
          try simp only [List.getElem_toArray, List.getElem_cons_succ, List.getElem_cons_zero, Act.put, List.setIfInBounds_toArray, List.set_cons_zero, List.set_cons_succ]
          generalize wd.alloc (.cells #[.int .i64 i] 3) = wL at *
          generalize wd.heap.size = gl at *
          refine wpAnyH_ready (rs := [3]) (by kernel_rfl) (by simp) ?_
          refine AllReadyH.cons rfl (fun K hK => ?_) AllReadyH.nil
          go_simp
          with_reducible refine (l1Own_any (w0 := wL) (w := wL) (hrd.out wL _ oL.tail).1).mono ?_
          rintro e w6 ⟨d4, m4, rfl, ownE, eE⟩
          have o6 := Own.join (w := wL) (w' := w6) oL ownE hlL
          have b6 : Below B w w6 := bL.trans (eE.below.mono hlL)
          obtain ⟨N4, hN4⟩ : ∃ N4, N4 = (O.take mO).length := ⟨_, rfl⟩
          rw [← hN4] at o6 ⊢
          replace hN4 := hid hN4
          refine hK.out _ _ trivial (fun _ => ?_)
          clear hK K
          try simp only [List.getElem_toArray, List.getElem_cons_succ, List.getElem_cons_zero, Act.put, List.setIfInBounds_toArray, List.set_cons_zero, List.set_cons_succ]
          refine wpAnyH_ready (rs := [6]) (by kernel_rfl) (by simp) ?_
          refine AllReadyH.cons rfl (fun K hK => ?_) AllReadyH.nil
          have c6 : w6.cell? ⟨gl, 0, none⟩ = some (.int .i64 i) := by
            have h := o6.tail.head.cellAt 0 (show 0 < 1 * 1 by omega)
            simpa using h
          have hl6 : B ≤ w6.heap.size := Nat.le_trans hB0 b6.size
          refine stp_one rfl (.tmp 23) (.tmp 25) 27 rfl elemInt rfl o6 hl6 (us := [.int .i64 i]) rfl rfl ?_ (by intro u hu; simp at hu; subst hu; rfl) (by omega) (by omega) ?_
          · intro jj u hj
            match jj, hj with
            | 0, hj => simp at hj; subst hj; exact c6
          intro v7 w7 ho7 hb7
          have o7 := own_grow1 ho7 rfl
          have b7 := b6.trans hb7
          obtain ⟨d7, n7, m7, hv7, hn7⟩ := own_formN o7
          subst hv7
          have r7 := (hrd.out _ _ o7.tail.tail).2
          refine hK.out _ _ trivial (fun _ => ?_)
          clear hK K
          try simp only [List.getElem_toArray, List.getElem_cons_succ, List.getElem_cons_zero, Act.put, List.setIfInBounds_toArray, List.set_cons_zero, List.set_cons_succ]
          refine wpAnyH_ready (rs := [10]) (by kernel_rfl) (by simp) ?_
          refine AllReadyH.cons rfl (fun K hK => ?_) AllReadyH.nil
          refine stp_ints rfl (.tmp 26) (.tmp 29) 27 rfl elemInt rfl o7 (Nat.le_trans hB0 b7.size) rfl r7 (by simp only [List.length_append, List.length_singleton, List.length_drop]; omega) ?_
          intro v8 w8 ho8 hb8
          have o8 := own_more ho8 rfl
          have b8 := b7.trans hb8
          refine hK.out _ _ trivial (fun _ => ?_)
          clear hK K
          try simp only [List.getElem_toArray, List.getElem_cons_succ, List.getElem_cons_zero, Act.put, List.setIfInBounds_toArray, List.set_cons_zero, List.set_cons_succ]
          refine wpAnyH_take (i := 11) (v := v8) rfl (by kernel_rfl) (by kernel_rfl) (by kernel_rfl) (fun _ _ _ h => h) (Or.inl ⟨by rfl, by intro wx hx; go_simp⟩) (by assumption) ?_
          try simp only [List.getElem_toArray, List.getElem_cons_succ, List.getElem_cons_zero, Act.put, List.setIfInBounds_toArray, List.set_cons_zero, List.set_cons_succ]
          refine wpAnyH_done (by kernel_rfl) ?_ _
          have o9 := o8.sub (List.Sublist.cons_cons _ (List.Sublist.cons _ (List.sublist_cons_self _ _)))
          go_wp2_with fail
          go_roundw
          case rel => exact ⟨i + 1, v8, O.take mO ++ [(i : Int)] ++ O.drop mO, a5, by go_num, rfl, hle2, by rw [List.length_append, List.length_append, List.length_drop]; have := hOl.out; have := hN.out; simp only [List.length_singleton]; omega, hOb2.out, by omega, by omega, cur_back o9, b8⟩
          case measure => simp [intOf]; omega
      · obtain ⟨g, rfl⟩ : ∃ g, dO = some ⟨g, 0, none⟩ := hf (by omega)
        have hrd := hid (show ∀ z L, Own z B (intRowOf 3 (.slice (some ⟨g, 0, none⟩) N mO) O :: L) → IsInts z (.slice (some ⟨g, 0, none⟩) k mO) (O.take k) ∧ IsInts z (.slice (some ⟨g, k, none⟩) (N - k) (mO - k)) (O.drop k) from fun z L hz => by
          have h := hz.reads (by unfold Short; omega) hOi.out
          have h2 := h.tailAt (k := k) (by have := hN.out; omega)
          rw [Nat.zero_add] at h2
          exact ⟨h.cut (by have := hN.out; omega), h2⟩)
        clear hf own5 own3
        go_upto_region 6 with fail
        refine region_held_from (w0 := w5) (S := fun _ => True) (by kernel_rfl) (fun _ _ => trivial) (fun wd ed hHeld0 => ?_)
        have ownd := h5.ext (w' := wd)
        have bd : Below B w wd := b5.trans (ed.below.mono hB5)
        have hlB : B ≤ wd.heap.size := Nat.le_trans hB0 bd.size
        refine wpAnyH_take (i := 0) (v := .slice (some ⟨g, 0, none⟩) N mO) rfl (by kernel_rfl) (by kernel_rfl) (by kernel_rfl) (fun _ _ _ h => h) (Or.inl ⟨by rfl, by intro wx hx; go_simp⟩) (by assumption) ?_
        try simp only [List.getElem_toArray, List.getElem_cons_zero, Act.put, List.setIfInBounds_toArray, List.set_cons_zero, List.set_cons_succ]
        refine wpAnyH_take (i := 1) (v := .int .i64 k) rfl (by kernel_rfl) (by kernel_rfl) (by kernel_rfl) (fun _ _ _ h => h) (Or.inl ⟨by rfl, by intro wx hx; go_simp⟩) (by assumption) ?_
        try simp only [List.getElem_toArray, List.getElem_cons_succ, List.getElem_cons_zero, Act.put, List.setIfInBounds_toArray, List.set_cons_zero, List.set_cons_succ]
        refine wpAnyH_take (i := 2) (v := .slice (some ⟨g, 0, none⟩) k mO) rfl (by kernel_rfl) (by kernel_rfl) (by kernel_rfl) (fun _ _ _ h => h) (Or.inl ⟨by rfl, by intro wx hx; go_simp⟩) (by assumption) ?_
        try simp only [List.getElem_toArray, List.getElem_cons_succ, List.getElem_cons_zero, Act.put, List.setIfInBounds_toArray, List.set_cons_zero, List.set_cons_succ]
        refine wpAnyH_take (i := 4) (v := .int .i64 i) rfl (by kernel_rfl) (by kernel_rfl) (by kernel_rfl) (fun _ _ _ h => h) (Or.inl ⟨by rfl, by intro wx hx; go_simp⟩) (by assumption) ?_
        try simp only [List.getElem_toArray, List.getElem_cons_succ, List.getElem_cons_zero, Act.put, List.setIfInBounds_toArray, List.set_cons_zero, List.set_cons_succ]
        refine wpAnyH_take (i := 7) (v := .slice (some ⟨g, 0, none⟩) N mO) rfl (by kernel_rfl) (by kernel_rfl) (by kernel_rfl) (fun _ _ _ h => h) (Or.inl ⟨by rfl, by intro wx hx; go_simp⟩) (by assumption) ?_
        try simp only [List.getElem_toArray, List.getElem_cons_succ, List.getElem_cons_zero, Act.put, List.setIfInBounds_toArray, List.set_cons_zero, List.set_cons_succ]
        refine wpAnyH_take (i := 8) (v := .int .i64 k) rfl (by kernel_rfl) (by kernel_rfl) (by kernel_rfl) (fun _ _ _ h => h) (Or.inl ⟨by rfl, by intro wx hx; go_simp⟩) (by assumption) ?_
        try simp only [List.getElem_toArray, List.getElem_cons_succ, List.getElem_cons_zero, Act.put, List.setIfInBounds_toArray, List.set_cons_zero, List.set_cons_succ]
        refine wpAnyH_take (i := 9) (v := .slice (some ⟨g, k, none⟩) (N - k) (mO - k)) rfl (by kernel_rfl) (by kernel_rfl) (by kernel_rfl) (fun _ _ _ h => h) (Or.inl ⟨by rfl, by intro wx hx; go_simp⟩) (by assumption) ?_
        try simp only [List.getElem_toArray, List.getElem_cons_succ, List.getElem_cons_zero, Act.put, List.setIfInBounds_toArray, List.set_cons_zero, List.set_cons_succ]
        refine wpAnyH_ready (rs := [3, 5]) (by kernel_rfl) (by simp) ?_
        refine AllReadyH.cons rfl (fun K hK => ?_) (AllReadyH.cons rfl (fun K hK => ?_) AllReadyH.nil)
        · go_simp
          with_reducible refine (l1Own_any (w0 := wd) (w := wd) (hrd.out wd _ ownd).1).mono ?_
          rintro e wE ⟨d4, m4, rfl, ownE, eE⟩
          have oE := Own.join (w := wd) (w' := wE) ownd ownE hlB
          have bE : Below B w wE := bd.trans (eE.below.mono hlB)
          have hlE : B ≤ wE.heap.size := Nat.le_trans hB0 bE.size
          obtain ⟨N4, hN4⟩ : ∃ N4, N4 = (O.take k).length := ⟨_, rfl⟩
          rw [← hN4] at oE ⊢
          replace hN4 := hid hN4
          refine hK.out _ _ trivial (fun _ => ?_)
          clear hK K
          try simp only [List.getElem_toArray, List.getElem_cons_succ, List.getElem_cons_zero, Act.put, List.setIfInBounds_toArray, List.set_cons_zero, List.set_cons_succ]
          refine wpAnyH_ready (rs := [5]) (by kernel_rfl) (by simp) ?_
          refine AllReadyH.cons rfl (fun K hK => ?_) AllReadyH.nil
          go_simp
          have oL := oE.lit 3 1 1 #[.int .i64 i] hlE (by unfold maxLen; omega) rfl
          have b6 : Below B w (wE.alloc (.cells #[.int .i64 i] 3)) := bE.alloc hlE _
          refine hK.out _ _ trivial (fun _ => ?_)
          clear hK K
          try simp only [List.getElem_toArray, List.getElem_cons_succ, List.getElem_cons_zero, Act.put, List.setIfInBounds_toArray, List.set_cons_zero, List.set_cons_succ]
          generalize wE.alloc (.cells #[.int .i64 i] 3) = w6 at *
          generalize wE.heap.size = gl at *
          have o6 := oL.perm (List.Perm.swap _ _ _)
          refine wpAnyH_ready (rs := [6]) (by kernel_rfl) (by simp) ?_
          refine AllReadyH.cons rfl (fun K hK => ?_) AllReadyH.nil
          have c6 : w6.cell? ⟨gl, 0, none⟩ = some (.int .i64 i) := by
            have h := o6.tail.head.cellAt 0 (show 0 < 1 * 1 by omega)
            simpa using h
          have hl6 : B ≤ w6.heap.size := Nat.le_trans hB0 b6.size
          refine stp_one rfl (.tmp 23) (.tmp 25) 27 rfl elemInt rfl o6 hl6 (us := [.int .i64 i]) rfl rfl ?_ (by intro u hu; simp at hu; subst hu; rfl) (by omega) (by omega) ?_
          · intro jj u hj
            match jj, hj with
            | 0, hj => simp at hj; subst hj; exact c6
          intro v7 w7 ho7 hb7
          have o7 := own_grow1 ho7 rfl
          have b7 := b6.trans hb7
          obtain ⟨d7, n7, m7, hv7, hn7⟩ := own_formN o7
          subst hv7
          have r7 := (hrd.out _ _ o7.tail.tail).2
          refine hK.out _ _ trivial (fun _ => ?_)
          clear hK K
          try simp only [List.getElem_toArray, List.getElem_cons_succ, List.getElem_cons_zero, Act.put, List.setIfInBounds_toArray, List.set_cons_zero, List.set_cons_succ]
          refine wpAnyH_ready (rs := [10]) (by kernel_rfl) (by simp) ?_
          refine AllReadyH.cons rfl (fun K hK => ?_) AllReadyH.nil
          refine stp_ints rfl (.tmp 26) (.tmp 29) 27 rfl elemInt rfl o7 (Nat.le_trans hB0 b7.size) rfl r7 (by simp only [List.length_append, List.length_singleton, List.length_drop]; omega) ?_
          intro v8 w8 ho8 hb8
          have o8 := own_more ho8 rfl
          have b8 := b7.trans hb8
          refine hK.out _ _ trivial (fun _ => ?_)
          clear hK K
          try simp only [List.getElem_toArray, List.getElem_cons_succ, List.getElem_cons_zero, Act.put, List.setIfInBounds_toArray, List.set_cons_zero, List.set_cons_succ]
          refine wpAnyH_take (i := 11) (v := v8) rfl (by kernel_rfl) (by kernel_rfl) (by kernel_rfl) (fun _ _ _ h => h) (Or.inl ⟨by rfl, by intro wx hx; go_simp⟩) (by assumption) ?_
          try simp only [List.getElem_toArray, List.getElem_cons_succ, List.getElem_cons_zero, Act.put, List.setIfInBounds_toArray, List.set_cons_zero, List.set_cons_succ]
          refine wpAnyH_done (by kernel_rfl) ?_ _
          have o9 := o8.sub (List.Sublist.cons_cons _ (List.Sublist.cons _ (List.sublist_cons_self _ _)))
          go_wp2_with fail
          go_roundw
          case rel => exact ⟨i + 1, v8, O.take k ++ [(i : Int)] ++ O.drop k, a5, by go_num, rfl, hle2, by rw [List.length_append, List.length_append, List.length_drop]; have := hOl.out; have := hN.out; simp only [List.length_singleton]; omega, hOb2.out, by omega, by omega, cur_back o9, b8⟩
          case measure => simp [intOf]; omega
        · go_simp
          have oL := ownd.lit 3 1 1 #[.int .i64 i] hlB (by unfold maxLen; omega) rfl
          have bL : Below B w (wd.alloc (.cells #[.int .i64 i] 3)) := bd.alloc hlB _
          have hlL : B ≤ (wd.alloc (.cells #[.int .i64 i] 3)).heap.size := Nat.le_trans hB0 bL.size
          refine hK.out _ _ trivial (fun _ => ?_)
          clear hK K
          try simp only [List.getElem_toArray, List.getElem_cons_succ, List.getElem_cons_zero, Act.put, List.setIfInBounds_toArray, List.set_cons_zero, List.set_cons_succ]
          generalize wd.alloc (.cells #[.int .i64 i] 3) = wL at *
          generalize wd.heap.size = gl at *
          refine wpAnyH_ready (rs := [3]) (by kernel_rfl) (by simp) ?_
          refine AllReadyH.cons rfl (fun K hK => ?_) AllReadyH.nil
          go_simp
          with_reducible refine (l1Own_any (w0 := wL) (w := wL) (hrd.out wL _ oL.tail).1).mono ?_
          rintro e w6 ⟨d4, m4, rfl, ownE, eE⟩
          have o6 := Own.join (w := wL) (w' := w6) oL ownE hlL
          have b6 : Below B w w6 := bL.trans (eE.below.mono hlL)
          obtain ⟨N4, hN4⟩ : ∃ N4, N4 = (O.take k).length := ⟨_, rfl⟩
          rw [← hN4] at o6 ⊢
          replace hN4 := hid hN4
          refine hK.out _ _ trivial (fun _ => ?_)
          clear hK K
          try simp only [List.getElem_toArray, List.getElem_cons_succ, List.getElem_cons_zero, Act.put, List.setIfInBounds_toArray, List.set_cons_zero, List.set_cons_succ]
          refine wpAnyH_ready (rs := [6]) (by kernel_rfl) (by simp) ?_
          refine AllReadyH.cons rfl (fun K hK => ?_) AllReadyH.nil
          have c6 : w6.cell? ⟨gl, 0, none⟩ = some (.int .i64 i) := by
            have h := o6.tail.head.cellAt 0 (show 0 < 1 * 1 by omega)
            simpa using h
          have hl6 : B ≤ w6.heap.size := Nat.le_trans hB0 b6.size
          refine stp_one rfl (.tmp 23) (.tmp 25) 27 rfl elemInt rfl o6 hl6 (us := [.int .i64 i]) rfl rfl ?_ (by intro u hu; simp at hu; subst hu; rfl) (by omega) (by omega) ?_
          · intro jj u hj
            match jj, hj with
            | 0, hj => simp at hj; subst hj; exact c6
          intro v7 w7 ho7 hb7
          have o7 := own_grow1 ho7 rfl
          have b7 := b6.trans hb7
          obtain ⟨d7, n7, m7, hv7, hn7⟩ := own_formN o7
          subst hv7
          have r7 := (hrd.out _ _ o7.tail.tail).2
          refine hK.out _ _ trivial (fun _ => ?_)
          clear hK K
          try simp only [List.getElem_toArray, List.getElem_cons_succ, List.getElem_cons_zero, Act.put, List.setIfInBounds_toArray, List.set_cons_zero, List.set_cons_succ]
          refine wpAnyH_ready (rs := [10]) (by kernel_rfl) (by simp) ?_
          refine AllReadyH.cons rfl (fun K hK => ?_) AllReadyH.nil
          refine stp_ints rfl (.tmp 26) (.tmp 29) 27 rfl elemInt rfl o7 (Nat.le_trans hB0 b7.size) rfl r7 (by simp only [List.length_append, List.length_singleton, List.length_drop]; omega) ?_
          intro v8 w8 ho8 hb8
          have o8 := own_more ho8 rfl
          have b8 := b7.trans hb8
          refine hK.out _ _ trivial (fun _ => ?_)
          clear hK K
          try simp only [List.getElem_toArray, List.getElem_cons_succ, List.getElem_cons_zero, Act.put, List.setIfInBounds_toArray, List.set_cons_zero, List.set_cons_succ]
          refine wpAnyH_take (i := 11) (v := v8) rfl (by kernel_rfl) (by kernel_rfl) (by kernel_rfl) (fun _ _ _ h => h) (Or.inl ⟨by rfl, by intro wx hx; go_simp⟩) (by assumption) ?_
          try simp only [List.getElem_toArray, List.getElem_cons_succ, List.getElem_cons_zero, Act.put, List.setIfInBounds_toArray, List.set_cons_zero, List.set_cons_succ]
          refine wpAnyH_done (by kernel_rfl) ?_ _
          have o9 := o8.sub (List.Sublist.cons_cons _ (List.Sublist.cons _ (List.sublist_cons_self _ _)))
          go_wp2_with fail
          go_roundw
          case rel => exact ⟨i + 1, v8, O.take k ++ [(i : Int)] ++ O.drop k, a5, by go_num, rfl, hle2, by rw [List.length_append, List.length_append, List.length_drop]; have := hOl.out; have := hN.out; simp only [List.length_singleton]; omega, hOb2.out, by omega, by omega, cur_back o9, b8⟩
          case measure => simp [intOf]; omega
    · go_wp2_with fail
      refine (pick_any (w0 := w0) hc own3 hwB (by omega) (by omega)).mono ?_
      rintro e w5 ⟨x, a5, rfl, hx0, hx1, hx2, h5a, h5b, own5, b5⟩
      have b5 := b3.trans b5
      have hO8 : O.length ≤ 8 := by have := hOl.out; have := hNl.out; omega
      have hOb' : ∀ y ∈ O, -10 ≤ y ∧ y ≤ 1000 := fun y hy => by have := hOb y hy; omega
      have hB5 := own5.size
      replace hOb := hid hOb
      replace hOb' := hid hOb'
      clear hx2 own3 b3
      by_cases hx : x = 0
      · subst hx
        obtain ⟨s5, h5⟩ := RqAt.of own5
        clear own5
        have hb9 := hid (show ∀ y ∈ O ++ [0], -10 ≤ y ∧ y ≤ 1000 from fun y hy => by
          rcases List.mem_append.1 hy with h | h
          · exact hOb'.out y h
          · rw [List.mem_singleton.1 h]; omega)
        go_wp2_with (at_builtin; refine wpList_append1 rfl _ _ _ rfl elemInt rfl h5 hB5 rfl rfl (by omega) (by omega) ?_; intro v7 w7 ho7 hb7; obtain ⟨d7, n7, m7, hv7, hn7⟩ := own_formN (own_grow1 ho7 rfl); (obtain rfl : v7 = .slice d7 n7 m7 := hv7))
        go_ret
        exact ⟨_, O ++ [0], a5, rfl, by rw [List.length_append, List.length_singleton]; omega, hb9.out, by omega, by omega, cur_back (own_grow1 ho7 rfl), b5.trans hb7⟩
      · have g0 : (x == 0) = false := by simp [hx]
        by_cases h1 : x = 1
        · subst h1
          by_cases hN0 : N = 0
          · subst hN0
            go_wp2_with fail
            go_ret
            exact ⟨_, O, a5, rfl, by omega, hOb'.out, by omega, by omega, own5, b5⟩
          · have hNp : 0 < N := by omega
            obtain ⟨g, rfl⟩ : ∃ g, dO = some ⟨g, 0, none⟩ := hf (by omega)
            have oL := own5.lit (e := 3) [-1, 0, 8] hB5 rfl rfl (by decide)
            have bL : Below B w (w5.alloc (.cells #[.int .i64 (-1), .int .i64 0, .int .i64 8] 3)) := b5.alloc hB5 _
            have e5 : Ext w0 w5 := hE.out _ b5
            go_wp2_with fail
            refine (among_any (w0 := w0) hc oL hwB (by omega) (by omega) (by decide) (by decide)).mono ?_
            rintro e w6 ⟨y, a6, rfl, hy, h6a, h6b, own6, b6⟩
            have hy2 : -1 ≤ y ∧ y ≤ 8 := by simp at hy; omega
            obtain ⟨s6, h6⟩ := RqAt.of own6.drop
            have h6n : Own w6 B (⟨3, 1, .slice (some ⟨g, 0, none⟩) N mO, N, O.map (Value.int .i64)⟩ :: curRow c vc a6 s6 :: R) := by
              have h := h6
              unfold intRowOf at h
              rw [← hN.out] at h
              exact h
            have hfz := h6n.frozenAt 0
            have hcl := h6n.cellAt (w' := w6) hNp
            have o7 := h6n.set 0 (.int .i64 y)
            rw [← List.map_set] at o7
            have o8 : Own (w6.setCell ⟨g, 0, none⟩ (.int .i64 y)) B (intRowOf 3 (.slice (some ⟨g, 0, none⟩) N mO) (O.set 0 y) :: curRow c vc a6 s6 :: R) := by
              unfold intRowOf
              rw [List.length_set, ← hN.out]
              exact o7
            have b8 : Below B w (w6.setCell ⟨g, 0, none⟩ (.int .i64 y)) := (bL.trans b6).setCell h6n.lt.1 _
            have hb9 := hid (bd_set (X := O) (j := 0) (l := -10) (h := 1000) hOb'.out (show -10 ≤ y ∧ y ≤ 1000 by omega))
            clear o7 h6 own6 oL bL hy
            clear h6n
            go_wp2_with fail
            go_ret
            exact ⟨_, O.set 0 y, a6, rfl, by rw [List.length_set]; omega, hb9.out, by omega, by omega, cur_back o8, b8⟩
        · have g1 : (x == 1) = false := by simp [h1]
          replace hx := hid hx
          replace h1 := hid h1
          go_wp2_with fail
          go_ret
          exact ⟨_, O, a5, rfl, by omega, hOb'.out, by omega, by omega, own5, b5⟩

/-- what a draw of a number of items and two sequences gives -/
def JnPost (w : World) (e : Ending) (w' : World) : Prop :=
  ∃ (n : Int) (v u : Value) (X Y : List Int), e = .returned (.tuple #[.int .i64 n, v, u]) ∧ (-1 ≤ n ∧ n ≤ 9) ∧ IsInts w' v X ∧ IsInts w' u Y ∧ X.length ≤ 100 ∧ Y.length ≤ 100 ∧ Ext w w'
def WnPost (w : World) (e : Ending) (w' : World) : Prop :=
  ∃ (n : Int) (v : Value) (X : List Int) (k : Int), e = .returned (.tuple #[.int .i64 n, v, .int .i64 k]) ∧ (-1 ≤ n ∧ n ≤ 9) ∧ IsInts w' v X ∧ X.length ≤ 100 ∧ (0 ≤ k ∧ k ≤ 61) ∧ Ext w w'
set_option maxHeartbeats 1600000 in
set_option maxRecDepth 100000 in
theorem drawJn_any {w0 w : World} [Ext w0 w] {vc : Value} {nb : Nat} (hc : IsBytes w0 vc nb) :
    Calls Try.prog 28 #[vc] w (JnPost w) := by
  obtain ⟨ac, cc, rfl⟩ := hc.form
  have hsz : w0.heap.size ≤ w.heap.size := (‹Ext w0 w›).size
  obtain ⟨B, hB⟩ : ∃ B, B = w.heap.size := ⟨_, rfl⟩
  have own1 : CurAt (w.alloc (.cells #[.slice ac nb cc, .int .i64 0, .int .u64 0] 55)) B B (.slice ac nb cc) 0 [] := by
    rw [hB]
    exact CurAt.start (Own.nil w w.heap.size) (Nat.le_refl _)
  have b1 : Below B w (w.alloc (.cells #[.slice ac nb cc, .int .i64 0, .int .u64 0] 55)) := by rw [hB]; exact (Below.refl _ w).alloc (Nat.le_refl _) _
  have hwB : w0.heap.size ≤ B := by omega
  have hE := hid (show ∀ u, Below B w u → Ext w u from fun u h => ⟨by rw [← hB]; exact h⟩)
  go_enter Try.func28, Try.ntmps28
  go_upto_region 2 with fail
  rw [← hB]
  replace hB := hid hB
  generalize w.alloc (.cells #[.slice ac nb cc, .int .i64 0, .int .u64 0] 55) = w1 at *
  have e1 : Ext w0 w1 := Ext.trans ‹Ext w0 w› (hE.out _ b1)
  go_wp2_with fail
  refine (items_any (w0 := w0) hc own1 hwB (by omega) (by omega)).mono ?_
  rintro e w2 ⟨n, a2, rfl, hn, h2a, h2b, own2, b2⟩
  have b2' := b1.trans b2
  have e2 : Ext w0 w2 := Ext.trans ‹Ext w0 w› (hE.out _ b2')
  clear own1 b1 b2 e1
  go_wp2_with fail
  refine (requests_any (w0 := w0) hc own2 hwB (by omega) (by omega) (n := n) (by omega)).mono ?_
  rintro e w3 ⟨v3, X, a3, rfl, hXl, hXb, h3a, h3b, own3, b3⟩
  have b3' := b2'.trans b3
  have e3 : Ext w0 w3 := Ext.trans ‹Ext w0 w› (hE.out _ b3')
  go_wp2_with fail
  refine (requests_any (w0 := w0) hc own3 hwB (by omega) (by omega) (n := n) (by omega)).mono ?_
  rintro e w4 ⟨v4, Y, a4, rfl, hYl, hYb, h4a, h4b, own4, b4⟩
  have hY : IsInts w4 v4 Y := (own4.rows).reads (e := 3) (by unfold Short; omega) (fun y hy => by have := hYb y hy; unfold I64; omega)
  have hX : IsInts w4 v3 X := (own4.rows.tail).reads (e := 3) (by unfold Short; omega) (fun y hy => by have := hXb y hy; unfold I64; omega)
  go_wp2_with fail
  refine bodyPost_ret (v := .tuple #[.int .i64 n, v3, v4]) (by simp [results, Try.results28, go_sem]) rfl ?_
  exact ⟨n, v3, v4, X, Y, rfl, hn, hX, hY, hXl, hYl, hE.out _ (b3'.trans b4)⟩
set_option maxHeartbeats 1600000 in
set_option maxRecDepth 100000 in
theorem drawRm_any {w0 w : World} [Ext w0 w] {vc : Value} {nb : Nat} (hc : IsBytes w0 vc nb) :
    Calls Try.prog 37 #[vc] w (JnPost w) := by
  obtain ⟨ac, cc, rfl⟩ := hc.form
  have hsz : w0.heap.size ≤ w.heap.size := (‹Ext w0 w›).size
  obtain ⟨B, hB⟩ : ∃ B, B = w.heap.size := ⟨_, rfl⟩
  have own1 : CurAt (w.alloc (.cells #[.slice ac nb cc, .int .i64 0, .int .u64 0] 55)) B B (.slice ac nb cc) 0 [] := by
    rw [hB]
    exact CurAt.start (Own.nil w w.heap.size) (Nat.le_refl _)
  have b1 : Below B w (w.alloc (.cells #[.slice ac nb cc, .int .i64 0, .int .u64 0] 55)) := by rw [hB]; exact (Below.refl _ w).alloc (Nat.le_refl _) _
  have hwB : w0.heap.size ≤ B := by omega
  have hE := hid (show ∀ u, Below B w u → Ext w u from fun u h => ⟨by rw [← hB]; exact h⟩)
  go_enter Try.func37, Try.ntmps37
  go_upto_region 2 with fail
  rw [← hB]
  replace hB := hid hB
  generalize w.alloc (.cells #[.slice ac nb cc, .int .i64 0, .int .u64 0] 55) = w1 at *
  have e1 : Ext w0 w1 := Ext.trans ‹Ext w0 w› (hE.out _ b1)
  go_wp2_with fail
  refine (items_any (w0 := w0) hc own1 hwB (by omega) (by omega)).mono ?_
  rintro e w2 ⟨n, a2, rfl, hn, h2a, h2b, own2, b2⟩
  have b2' := b1.trans b2
  have e2 : Ext w0 w2 := Ext.trans ‹Ext w0 w› (hE.out _ b2')
  clear own1 b1 b2 e1
  go_wp2_with fail
  refine (requests_any (w0 := w0) hc own2 hwB (by omega) (by omega) (n := n) (by omega)).mono ?_
  rintro e w3 ⟨v3, X, a3, rfl, hXl, hXb, h3a, h3b, own3, b3⟩
  have b3' := b2'.trans b3
  have e3 : Ext w0 w3 := Ext.trans ‹Ext w0 w› (hE.out _ b3')
  go_wp2_with fail
  refine (order3_any (w0 := w0) hc own3 hwB (by omega) (by omega) (n := n) (by omega)).mono ?_
  rintro e w4 ⟨v4, Y, a4, rfl, hYl, hYb, h4a, h4b, own4, b4⟩
  have hY : IsInts w4 v4 Y := (own4.rows).reads (e := 3) (by unfold Short; omega) (fun y hy => by have := hYb y hy; unfold I64; omega)
  have hX : IsInts w4 v3 X := (own4.rows.tail).reads (e := 3) (by unfold Short; omega) (fun y hy => by have := hXb y hy; unfold I64; omega)
  go_wp2_with fail
  refine bodyPost_ret (v := .tuple #[.int .i64 n, v3, v4]) (by simp [results, Try.results37, go_sem]) rfl ?_
  exact ⟨n, v3, v4, X, Y, rfl, hn, hX, hY, hXl, hYl, hE.out _ (b3'.trans b4)⟩
set_option maxHeartbeats 1600000 in
set_option maxRecDepth 100000 in
theorem drawWn_any {w0 w : World} [Ext w0 w] {vc : Value} {nb : Nat} (hc : IsBytes w0 vc nb) :
    Calls Try.prog 40 #[vc] w (WnPost w) := by
  obtain ⟨ac, cc, rfl⟩ := hc.form
  have hsz : w0.heap.size ≤ w.heap.size := (‹Ext w0 w›).size
  obtain ⟨B, hB⟩ : ∃ B, B = w.heap.size := ⟨_, rfl⟩
  have own1 : CurAt (w.alloc (.cells #[.slice ac nb cc, .int .i64 0, .int .u64 0] 55)) B B (.slice ac nb cc) 0 [] := by
    rw [hB]
    exact CurAt.start (Own.nil w w.heap.size) (Nat.le_refl _)
  have b1 : Below B w (w.alloc (.cells #[.slice ac nb cc, .int .i64 0, .int .u64 0] 55)) := by rw [hB]; exact (Below.refl _ w).alloc (Nat.le_refl _) _
  have hwB : w0.heap.size ≤ B := by omega
  have hE := hid (show ∀ u, Below B w u → Ext w u from fun u h => ⟨by rw [← hB]; exact h⟩)
  go_enter Try.func40, Try.ntmps40
  go_upto_region 2 with fail
  rw [← hB]
  replace hB := hid hB
  generalize w.alloc (.cells #[.slice ac nb cc, .int .i64 0, .int .u64 0] 55) = w1 at *
  have e1 : Ext w0 w1 := Ext.trans ‹Ext w0 w› (hE.out _ b1)
  go_wp2_with fail
  refine (items_any (w0 := w0) hc own1 hwB (by omega) (by omega)).mono ?_
  rintro e w2 ⟨n, a2, rfl, hn, h2a, h2b, own2, b2⟩
  have b2' := b1.trans b2
  have e2 : Ext w0 w2 := Ext.trans ‹Ext w0 w› (hE.out _ b2')
  clear own1 b1 b2 e1
  go_wp2_with fail
  refine (requests_any (w0 := w0) hc own2 hwB (by omega) (by omega) (n := n) (by omega)).mono ?_
  rintro e w3 ⟨v3, X, a3, rfl, hXl, hXb, h3a, h3b, own3, b3⟩
  have b3' := b2'.trans b3
  have e3 : Ext w0 w3 := Ext.trans ‹Ext w0 w› (hE.out _ b3')
  go_wp2_with fail
  refine (among_any (w0 := w0) hc (own3.lit (e := 3) [1, 2, 3, 4, 8, 60, 0, 61] own3.size rfl rfl (by decide)) hwB (by omega) (by omega) (by decide) (by decide)).mono ?_
  rintro e w4 ⟨k, a4, rfl, hk, h4a, h4b, own4, b4⟩
  have hk2 : 0 ≤ k ∧ k ≤ 61 := by simp at hk; omega
  have b4' : Below B w w4 := b3'.trans (((Below.refl B w3).alloc own3.size _).trans b4)
  have hX : IsInts w4 v3 X := (own4.rows.tail).reads (e := 3) (by unfold Short; omega) (fun y hy => by have := hXb y hy; unfold I64; omega)
  go_wp2_with fail
  refine bodyPost_ret (v := .tuple #[.int .i64 n, v3, .int .i64 k]) (by simp [results, Try.results40, go_sem]) rfl ?_
  exact ⟨n, v3, X, k, rfl, hn, hX, hXl, hk2, hE.out _ b4'⟩
set_option maxHeartbeats 1600000 in
set_option maxRecDepth 100000 in
theorem drawPj_any {w0 w : World} [Ext w0 w] {vc : Value} {nb : Nat} (hc : IsBytes w0 vc nb) :
    Calls Try.prog 33 #[vc] w (JnPost w) := by
  obtain ⟨ac, cc, rfl⟩ := hc.form
  have hsz : w0.heap.size ≤ w.heap.size := (‹Ext w0 w›).size
  obtain ⟨B, hB⟩ : ∃ B, B = w.heap.size := ⟨_, rfl⟩
  have own1 : CurAt (w.alloc (.cells #[.slice ac nb cc, .int .i64 0, .int .u64 0] 55)) B B (.slice ac nb cc) 0 [] := by
    rw [hB]
    exact CurAt.start (Own.nil w w.heap.size) (Nat.le_refl _)
  have b1 : Below B w (w.alloc (.cells #[.slice ac nb cc, .int .i64 0, .int .u64 0] 55)) := by rw [hB]; exact (Below.refl _ w).alloc (Nat.le_refl _) _
  have hwB : w0.heap.size ≤ B := by omega
  have hE := hid (show ∀ u, Below B w u → Ext w u from fun u h => ⟨by rw [← hB]; exact h⟩)
  go_enter Try.func33, Try.ntmps33
  go_upto_region 2 with fail
  rw [← hB]
  replace hB := hid hB
  generalize w.alloc (.cells #[.slice ac nb cc, .int .i64 0, .int .u64 0] 55) = w1 at *
  have e1 : Ext w0 w1 := Ext.trans ‹Ext w0 w› (hE.out _ b1)
  go_wp2_with fail
  refine (items_any (w0 := w0) hc own1 hwB (by omega) (by omega)).mono ?_
  rintro e w2 ⟨n, a2, rfl, hn, h2a, h2b, own2, b2⟩
  have b2' := b1.trans b2
  have e2 : Ext w0 w2 := Ext.trans ‹Ext w0 w› (hE.out _ b2')
  clear own1 b1 b2 e1
  have hB2 := own2.size
  have ownL := own2.lit (e := 3) [] hB2 rfl rfl (by decide)
  have bL : Below B w (w2.alloc (.cells #[] 3)) := b2'.alloc hB2 _
  go_upto_region 4 with fail
  generalize w2.alloc (.cells #[] 3) = wL at *
  go_wp2_with fail
  obtain ⟨M, hM⟩ : ∃ M, M = minB id n 8 := ⟨_, rfl⟩
  have hM8 : M ≤ 8 := by rw [hM]; unfold minB; split <;> simp_all <;> omega
  have hmin := fun u => l1Least_any n 8 u
  rw [← hM] at hmin
  replace hmin := hid hmin
  replace hM := hid hM
  go_loopw [7, 8] (fun u iv wr => ∃ (i : Nat) (O : List Int) (a' : Int), iv = .int .i64 i ∧ i ≤ 8 ∧ O.length ≤ i ∧ (∀ x ∈ O, -10 ≤ x ∧ x ≤ 1000) ∧ 0 ≤ a' ∧ a' ≤ 10 + 2 * i ∧ CurAt wr B B (.slice ac nb cc) a' [intRowOf 3 u O] ∧ Below B w wr) (fun _ iv _ => 9 - (intOf iv).toNat)
  case atStart => exact ⟨0, [], a2, rfl, by omega, by simp, by simp, by omega, by omega, ownL, bL⟩
  case round =>
    clear own2 b2' ownL bL hB2
    obtain ⟨i, O, a3, rfl, hi8, hOl, hOb, h3a, h3b, own3, b3⟩ := hrel
    obtain ⟨wo, rfl⟩ : ∃ y : World, y = wr := ⟨_, rfl⟩
    obtain ⟨dO, N, mO, rfl, hN⟩ := own_formN own3.rows
    have hN8 : N ≤ 8 := by have := hN.out; omega
    have e3 : Ext w0 wo := Ext.trans ‹Ext w0 w› (hE.out _ b3)
    replace hOb := hid hOb
    go_wp2_with fail
    with_reducible refine (hmin.out _).mono ?_
    rintro e w4 ⟨rfl, rfl⟩
    by_cases hlt : (i : Int) < M
    · have hle2 : i + 1 ≤ 8 := by omega
      go_wp2_with fail
      refine (one_any (w0 := w0) hc own3 hwB (by omega) (by omega)).mono ?_
      rintro e w5 ⟨q5, a5, rfl, h5a, h5b, own5, b5⟩
      have b5' := b3.trans b5
      have hB5 := own5.size
      replace hlt := hid hlt
      clear own3 b3 b5
      cases q5 with
      | false =>
        go_wp2_with fail
        go_roundw
        case rel => exact ⟨i + 1, O, a5, by go_num, hle2, by omega, hOb.out, by omega, by omega, own5, b5'⟩
        case measure => simp [intOf]; omega
      | true =>
        obtain ⟨s5, h5⟩ := RqAt.of own5
        clear own5
        go_wp2_with (at_builtin; refine wpList_append1 rfl _ _ _ rfl elemInt rfl h5 hB5 rfl rfl (by omega) (by omega) ?_; intro v7 w7 ho7 hb7; obtain ⟨d7, n7, m7, hv7, hn7⟩ := own_formN (own_grow1 ho7 rfl); (obtain rfl : v7 = .slice d7 n7 m7 := hv7))
        go_roundw
        case rel => exact ⟨i + 1, O ++ [(i : Int)], a5, by go_num, hle2, by rw [List.length_append, List.length_singleton]; omega, bd_snoc hOb.out (by omega), by omega, by omega, cur_back (own_grow1 ho7 rfl), b5'.trans hb7⟩
        case measure => simp [intOf]; omega
    · go_wp2_with fail
      refine (one_any (w0 := w0) hc own3 hwB (by omega) (by omega)).mono ?_
      rintro e w5 ⟨q5, a5, rfl, h5a, h5b, own5, b5⟩
      have b5' := b3.trans b5
      have hB5 := own5.size
      have e5 : Ext w0 w5 := Ext.trans ‹Ext w0 w› (hE.out _ b5')
      replace hlt := hid hlt
      clear own3 b3 b5
      cases q5 with
      | false =>
        go_wp2_with fail
        refine (requests_any (w0 := w0) hc own5 hwB (by omega) (by omega) (n := n) (by omega)).mono ?_
        rintro e w6 ⟨v6, X, a6, rfl, hXl, hXb, h6a, h6b, own6, b6⟩
        have hX : IsInts w6 v6 X := (own6.rows).reads (e := 3) (by unfold Short; omega) (fun y hy => by have := hXb y hy; unfold I64; omega)
        have hY : IsInts w6 (.slice dO N mO) O := (own6.rows.tail).reads (e := 3) (by unfold Short; omega) (fun y hy => by have := hOb.out y hy; unfold I64; omega)
        go_wp2_with fail
        refine bodyPost_ret (v := .tuple #[.int .i64 n, v6, .slice dO N mO]) (by simp [results, Try.results33, go_sem]) rfl ?_
        exact ⟨n, v6, _, X, O, rfl, hn, hX, hY, hXl, by omega, hE.out _ (b5'.trans b6)⟩
      | true =>
        have oL := own5.lit (e := 3) [0, -1, 8] hB5 rfl rfl (by decide)
        have bL : Below B w (w5.alloc (.cells #[.int .i64 0, .int .i64 (-1), .int .i64 8] 3)) := b5'.alloc hB5 _
        go_wp2_with fail
        refine (among_any (w0 := w0) hc oL hwB (by omega) (by omega) (by decide) (by decide)).mono ?_
        rintro e w6 ⟨y, a6, rfl, hy, h6a, h6b, own6, b6⟩
        have hy2 : -1 ≤ y ∧ y ≤ 8 := by simp at hy; omega
        have b6' := bL.trans b6
        obtain ⟨s6, h6⟩ := RqAt.of own6.drop
        have hB6 := own6.size
        have hb9 := hid (show ∀ z ∈ O ++ [y], -10 ≤ z ∧ z ≤ 1000 from bd_snoc hOb.out (by omega))
        have hl9 := hid (show (O ++ [y]).length ≤ 100 by rw [List.length_append, List.length_singleton]; omega)
        clear own6 own5 oL bL hy b6
        go_upto_region 11 with (at_builtin; refine wpList_append1 rfl _ _ _ rfl elemInt rfl h6 hB6 rfl rfl (by omega) (by omega) ?_; intro v7 w7 ho7 hb7; obtain ⟨d7, n7, m7, hv7, hn7⟩ := own_formN (own_grow1 ho7 rfl); (obtain rfl : v7 = .slice d7 n7 m7 := hv7))
        have own7 : CurAt w7 B B (.slice ac nb cc) a6 [intRowOf 3 (.slice d7 n7 m7) (O ++ [y])] := cur_back (own_grow1 ho7 rfl)
        have b7 := b6'.trans hb7
        have e7 : Ext w0 w7 := Ext.trans ‹Ext w0 w› (hE.out _ b7)
        clear ho7 h6
        go_wp2_with fail
        refine (requests_any (w0 := w0) hc own7 hwB (by omega) (by omega) (n := n) (by omega)).mono ?_
        rintro e w8 ⟨v8, X, a8, rfl, hXl, hXb, h8a, h8b, own8, b8⟩
        have hX : IsInts w8 v8 X := (own8.rows).reads (e := 3) (by unfold Short; omega) (fun y hy => by have := hXb y hy; unfold I64; omega)
        have hY : IsInts w8 (.slice d7 n7 m7) (O ++ [y]) := (own8.rows.tail).reads (e := 3) (by have := hl9.out; unfold Short; omega) (fun y hy => by have := hb9.out y hy; unfold I64; omega)
        go_wp2_with fail
        refine bodyPost_ret (v := .tuple #[.int .i64 n, v8, .slice d7 n7 m7]) (by simp [results, Try.results33, go_sem]) rfl ?_
        exact ⟨n, v8, _, X, O ++ [y], rfl, hn, hX, hY, hXl, hl9.out, hE.out _ (b7.trans b8)⟩
end Go.Proofs.Ytmabejallkjjmaa
