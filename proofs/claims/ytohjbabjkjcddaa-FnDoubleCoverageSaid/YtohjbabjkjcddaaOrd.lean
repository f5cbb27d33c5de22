/- The orders of the numbers below k: of the program and of the reference. -/
import Derived.Test.YtohjbabjkjcddaaOrdP
import Derived.Test.YtohjbabjkjcddaaCfg
import Derived.Test.YtohjbabjkjcddaaHas
import Derived.Test.YtohjbabjkjcddaaSl
namespace Go.Proofs.Ytohjbabjkjcddaa
open Go.RowKit

theorem Tab.formN {w : World} {B : Nat} {v : Value} {M : List (List Int)} {R : List Row} (h : Tab w B v M R) : ∃ d n m, v = .slice d n m ∧ Hid (n = M.length) := by
  obtain ⟨d, m, h⟩ := h.form
  exact ⟨d, _, m, h, rfl⟩
theorem TabX.rformN {w : World} {B : Nat} {v rv : Value} {M : List (List Int)} {xs : List Int} {R : List Row} (h : TabX w B v M rv xs R) : ∃ d n m, rv = .slice d n m ∧ Hid (n = xs.length) := by
  obtain ⟨d, m, h⟩ := h.rform
  exact ⟨d, _, m, h, rfl⟩
theorem Tab.sealed {w : World} {B : Nat} {v : Value} {M : List (List Int)} {R : List Row} (h : Tab w B v M R) (hs : ShortRows M.length) (hr : ∀ r ∈ M, Short r.length) (hi : ∀ r ∈ M, ∀ x ∈ r, I64 x) :
    ∃ R' : List Row, ∃ f : Nat → Value, Own w B R' ∧ ∀ z, Own z B R' → IsRows z v M ∧ ∀ j, j < M.length → ∃ b o n c d m, v = .slice (some ⟨b, o, none⟩) n c ∧ f j = .slice d (row M j).length m ∧ z.cell? ⟨b, o + j, none⟩ = some (f j) ∧ IsInts z (f j) (row M j) := by
  obtain ⟨vs, h1, h2⟩ := h
  refine ⟨_, fun j => vs.getD j undef, h2, fun z hz => ⟨hz.readsAll h1 hs hr hi, fun j hj => ?_⟩⟩
  have h3 : Own z B (⟨24, 1, v, vs.length, vs⟩ :: (List.zipWith (intRowOf 3) vs M ++ R)) := hz
  obtain ⟨a, c, hv⟩ := h3.form
  have hv' : v = .slice a vs.length c := hv
  subst hv'
  have hj' : j < vs.length := by omega
  obtain ⟨g, rfl⟩ := h3.at hj'
  have h4 : (List.zipWith (intRowOf 3) vs M ++ R)[j]? = some (intRowOf 3 (vs.getD j undef) (row M j)) := by
    rw [List.getElem?_append_left (by simp; omega)]
    simp [List.getElem?_zipWith, hj', row, hj]
  have h5 := (h3.tail.pick h4).reads (hr _ (row_mem hj)) (hi _ (row_mem hj))
  obtain ⟨d, m, h6, _⟩ := h5.form
  refine ⟨g, 0, _, c, d, m, rfl, h6, ?_, h5⟩
  rw [Nat.zero_add]
  exact h3.cellAt (w' := z) hj'
theorem Tab.one (w : World) : Tab ((w.alloc (.cells #[] 3)).alloc (.cells #[.slice (some ⟨w.heap.size, 0, none⟩) 0 0] 24)) w.heap.size (.slice (some ⟨w.heap.size + 1, 0, none⟩) 1 1) [[]] [] := by
  have h1 := (Own.nil w w.heap.size).lit 3 1 0 #[] (Nat.le_refl _) (by unfold maxLen; omega) rfl
  have h2 := h1.lit 24 1 1 #[.slice (some ⟨w.heap.size, 0, none⟩) 0 0] (by simp) (by unfold maxLen; omega) rfl
  rw [show (w.alloc (.cells #[] 3)).heap.size = w.heap.size + 1 by simp] at h2
  exact ⟨[.slice (some ⟨w.heap.size, 0, none⟩) 0 0], rfl, h2⟩

set_option maxHeartbeats 1600000 in
set_option maxRecDepth 100000 in
theorem orders_any {k : Nat} (hk : k ≤ 3) (w : World) :
    Calls Try.prog 170 #[.int .i64 k] w fun e w' => ∃ v, e = .returned v ∧ IsRows w' v (ordL k) ∧ Ext w w' := by
  go_enter Try.func170, Try.ntmps170
  go_upto_region 2 with fail
  have hS := Tab.one w
  have e0 : Ext w ((w.alloc (.cells #[] 3)).alloc (.cells #[.slice (some ⟨w.heap.size, 0, none⟩) 0 0] 24)) := inferInstance
  obtain ⟨B, hB⟩ : ∃ b, b = w.heap.size := ⟨_, rfl⟩
  have b0 : Below B w ((w.alloc (.cells #[] 3)).alloc (.cells #[.slice (some ⟨w.heap.size, 0, none⟩) 0 0] 24)) := by rw [hB]; exact e0.below
  rw [← hB] at hS b0 ⊢
  have hl0 : B ≤ w.heap.size := Nat.le_of_eq hB
  generalize (w.alloc (.cells #[] 3)).alloc (.cells #[.slice (some ⟨B, 0, none⟩) 0 0] 24) = w1 at *
  replace hB := hid hB
  clear e0
  have hS0 : Tab w1 B (.slice (some ⟨B + 1, 0, none⟩) 1 1) (ordTo k 0) [] := hS
  clear hS
  go_wp2
  go_loopw [3, 11] (fun v i wr => ∃ j : Nat, j ≤ k ∧ i = .int .i64 j ∧ (∃ R, Tab wr B v (ordTo k j) R) ∧ Below B w wr) (fun _ i _ => k - (intOf i).toNat)
  case atStart => exact ⟨0, by omega, rfl, ⟨_, hS0⟩, b0⟩
  case round =>
    obtain ⟨j, hj, rfl, ⟨R0, htab⟩, hb⟩ := hrel
    obtain ⟨d, m, rfl⟩ := htab.form
    obtain ⟨wo, rfl⟩ : ∃ y : World, y = wr := ⟨_, rfl⟩
    have hBo : B ≤ wo.heap.size := Nat.le_trans hl0 hb.size
    by_cases hlt : j < k
    · obtain ⟨R, fr, hown, hR⟩ := htab.sealed (ordTo_rows hk (by omega)).1 (ordTo_rows hk (by omega)).2.1 (ordTo_rows hk (by omega)).2.2
      have h27 := ordTo_27 (j := j) hk (by omega)
      have h81 := hid (fun a => ordN_81 (k := k) (j := j) (a := a) hk (by omega))
      have hns := hid (fun a h => ordN_succ (k := k) (j := j) (a := a) h)
      have hna := hid (ordN_all k j)
      have hLm := hid (show ∀ r ∈ ordTo k j, r.length = j from fun r hr => (ordTo_mem.1 hr).1)
      have hN0 := ordN_zero k j
      obtain ⟨L, hL⟩ : ∃ l, l = ordTo k j := ⟨_, rfl⟩
      obtain ⟨N, hN⟩ : ∃ f, f = ordN k j := ⟨_, rfl⟩
      rw [← hL] at hR h27 hns hna hLm ⊢
      rw [← hN] at h81 hns hna hN0
      replace hR := hid hR
      replace hL := hid hL
      replace hN := hid hN
      have tab0 : Tab (wo.alloc (.cells #[] 24)) B (.slice (some ⟨wo.heap.size, 0, none⟩) 0 0) (N 0) R := by rw [hN0]; exact Tab.start hown hBo
      have b1 : Below B w (wo.alloc (.cells #[] 24)) := hb.alloc hBo _
      replace hN0 := hid hN0
      clear htab hown
      go_upto_region 5 with fail
      generalize wo.alloc (.cells #[] 24) = w2 at *
      generalize wo.heap.size = g2 at *
      go_wp2
      go_loopw [4, 16] (fun v i wr => ∃ a : Nat, a ≤ L.length ∧ i = .int .i64 a ∧ Tab wr B v (N a) R ∧ Below B w wr) (fun _ i _ => L.length - (intOf i).toNat)
      case atStart => exact ⟨0, by omega, rfl, tab0, b1⟩
      case round =>
        obtain ⟨a, ha, rfl, htab, hb⟩ := hrel
        obtain ⟨d3, n3, m3, rfl, hn3⟩ := htab.formN
        obtain ⟨wq, rfl⟩ : ∃ y : World, y = wr := ⟨_, rfl⟩
        by_cases hlta : a < L.length
        · obtain ⟨b, o, n7, c7, dr, mr, hd2, hfa, hcr, hir⟩ := (hR.out wq htab.rest).2 a hlta
          rw [hfa] at hcr hir
          cases hd2
          have hrl := hid (hLm.out _ (row_mem hlta))
          have hnsa := hid (hns.out a hlta)
          have h81a := h81.out (a + 1)
          rw [hnsa.out, List.length_append] at h81a
          obtain ⟨r, hr⟩ : ∃ r, r = row L a := ⟨_, rfl⟩
          rw [← hr] at hcr hir hrl hnsa h81a
          have hok := hid (show ∀ z, Own z B R → IsInts z (.slice dr r.length mr) r from fun z hz => by
            obtain ⟨_, _, _, _, _, _, _, _, _, h⟩ := (hR.out z hz).2 a hlta
            rw [hfa, ← hr] at h
            exact h)
          replace hfa := hid hfa
          have hlr : r.length ≤ 17592186044415 := by have := hrl.out; omega
          replace hr := hid hr
          have hS3 : Tab wq B (.slice d3 n3 m3) (N a ++ nextO r 0) R := by rw [nextO_zero, List.append_nil]; exact htab
          clear htab
          go_wp2
          go_loopw [4, 21] (fun v i wr => ∃ q : Nat, q ≤ k ∧ i = .int .i64 q ∧ Tab wr B v (N a ++ nextO r q) R ∧ Below B w wr) (fun _ i _ => k - (intOf i).toNat)
          case atStart => exact ⟨0, by omega, rfl, hS3, hb⟩
          case round =>
            obtain ⟨q, hq, rfl, htab, hb⟩ := hrel
            obtain ⟨d4, n4, m4, rfl, hn4⟩ := htab.formN
            obtain ⟨wp, rfl⟩ : ∃ y : World, y = wr := ⟨_, rfl⟩
            have hBp : B ≤ wp.heap.size := Nat.le_trans hl0 hb.size
            by_cases hltq : q < k
            · have hirp := hok.out wp htab.rest
              by_cases hmem : (q : Int) ∈ r
              · have hh := hid (hasB_true.2 hmem)
                have hn := hid (nextO_succ_no hmem)
                replace hmem := hid hmem
                go_wp2_with fail
                with_reducible refine (sContains_any (w0 := wp) (w := wp) hirp).mono ?_
                rw [hh.out]
                rintro e w4 ⟨rfl, rfl⟩
                go_wp2_with fail
                go_roundw
                case rel => exact ⟨q + 1, by omega, by go_num, by rw [hn.out]; exact htab, hb⟩
                case measure => simp [intOf]; omega
              · have hh := hid (hasB_false.2 hmem)
                have hn := hid (nextO_succ_yes hmem)
                have hql := hid (nextO_len r q)
                replace hmem := hid hmem
                go_wp2_with fail
                with_reducible refine (sContains_any (w0 := wp) (w := wp) hirp).mono ?_
                rw [hh.out]
                rintro e w4 ⟨rfl, rfl⟩
                go_wp2_with fail
                with_reducible refine (cloneInts_any (w0 := wp) (w := wp) hirp).mono ?_
                rintro e w4 ⟨d5, m5, rfl, hown5, e5⟩
                have tab5 := htab.join hown5 e5 hBp
                have b5 : Below B w w4 := hb.trans (e5.below.mono hBp)
                have hB5 : B ≤ w4.heap.size := Nat.le_trans hl0 b5.size
                have hlN : (N a ++ nextO r q).length ≤ 1000 := by rw [List.length_append]; have := hql.out; have := h81.out a; omega
                obtain ⟨Tq, hTq⟩ : ∃ l, l = N a ++ nextO r q := ⟨_, rfl⟩
                rw [← hTq] at tab5 hlN
                have hfin := hid (show N a ++ nextO r (q + 1) = Tq ++ [r ++ [(q : Int)]] by rw [hn.out, hTq, List.append_assoc])
                replace hTq := hid hTq
                clear htab hown5
                go_wp2_with (first
                  | (at_builtin; refine wpList_grow rfl (.tmp 30) (.tmp 32) rfl rfl tab5 hB5 rfl (by have := hrl.out; omega) ?_; intro v6 w6 tab6 b6; obtain ⟨d6, n6, m6, hv6, hn6⟩ := tab6.rformN; subst hv6)
                  | (at_builtin; refine wpList_push rfl (.tmp 28) (.tmp 34) rfl rfl tab6 (Nat.le_trans hl0 (b5.trans b6).size) rfl (by omega) ?_; intro v7 w7 tab7 b7))
                go_roundw
                case rel => exact ⟨q + 1, by omega, by go_num, tab7.eq hfin.out.symm, (b5.trans b6).trans b7⟩
                case measure => simp [intOf]; omega
            · have hqk : q = k := by omega
              go_wp2_with fail
              go_roundw
              case rel => exact ⟨a + 1, by omega, by go_num, htab.eq (by rw [hnsa.out, hqk]), hb⟩
              case measure => simp [intOf]; omega
        · have hal : a = L.length := by omega
          go_wp2_with fail
          go_roundw
          case rel => exact ⟨j + 1, by omega, by go_num, ⟨R, htab.eq (by rw [hal]; exact hna.out)⟩, hb⟩
          case measure => simp [intOf]; omega
    · have hjk : j = k := by omega
      have hrd := htab.reads (ordTo_rows hk (by omega)).1 (ordTo_rows hk (by omega)).2.1 (ordTo_rows hk (by omega)).2.2
      have hfin := hid (show IsRows wo (.slice d (ordTo k j).length m) (ordL k) by rw [hjk] at hrd ⊢; exact hrd)
      replace hjk := hid hjk
      go_wp2_with fail
      go_ret
      exact ⟨_, rfl, hfin.out, ⟨by rw [← hB.out]; exact hb⟩⟩
end Go.Proofs.Ytohjbabjkjcddaa
