/- The orders of the numbers below k: of the reference. -/
import Derived.Test.YtmgcfnciejfpbaaGreatOrd
namespace Go.Proofs.YtmgcfnciejfpbaaGreat
open Go.RowKit

set_option maxHeartbeats 1600000 in
set_option maxRecDepth 100000 in
theorem l6Perms_any {k : Nat} (hk : k ≤ 3) (w : World) :
    Calls Tryz.prog 166 #[.int .i64 k] w fun e w' => ∃ v, e = .returned v ∧ IsRows w' v (ordL k) ∧ Ext w w' := by
  go_enter Tryz.func166, Tryz.ntmps166
  go_upto_region 2 with fail
  have hS := Tab.one w
  have e0 : Ext w ((w.alloc (.cells #[] 3)).alloc (.cells #[.slice (some ⟨w.heap.size, 0, none⟩) 0 0] 27)) := inferInstance
  obtain ⟨B, hB⟩ : ∃ b, b = w.heap.size := ⟨_, rfl⟩
  have b0 : Below B w ((w.alloc (.cells #[] 3)).alloc (.cells #[.slice (some ⟨w.heap.size, 0, none⟩) 0 0] 27)) := by rw [hB]; exact e0.below
  rw [← hB] at hS b0 ⊢
  have hl0 : B ≤ w.heap.size := Nat.le_of_eq hB
  generalize (w.alloc (.cells #[] 3)).alloc (.cells #[.slice (some ⟨B, 0, none⟩) 0 0] 27) = w1 at *
  replace hB := hid hB
  clear e0
  have hS0 : Tab w1 B (.slice (some ⟨B + 1, 0, none⟩) 1 1) (ordTo k 0) [] := hS
  clear hS
  go_wp2
  go_loopw [3, 4] (fun v i wr => ∃ j : Nat, j ≤ k ∧ i = .int .i64 j ∧ (∃ R, Tab wr B v (ordTo k j) R) ∧ Below B w wr) (fun _ i _ => k - (intOf i).toNat)
  case atStart => exact ⟨0, by omega, rfl, ⟨_, hS0⟩, b0⟩
  case round =>
    obtain ⟨j, hj, rfl, ⟨R0, htab⟩, hb⟩ := hrel
    obtain ⟨d, m, rfl⟩ := htab.form
    obtain ⟨wo, rfl⟩ : ∃ y : World, y = wr := ⟨_, rfl⟩
    have hBo : B ≤ wo.heap.size := Nat.le_trans hl0 hb.size
    by_cases hlt : j < k
    · obtain ⟨R, fr, hown, hR⟩ := htab.sealed (ordTo_rows hk (by omega)).1 (ordTo_rows hk (by omega)).2.1 (ordTo_rows hk (by omega)).2.2
      have h27 := ordTo_27 (j := j) hk (by omega)
      have h81 := hid (fun a => ordN_81 (k := k) (j := j) (a := a) hk (by omega))
      have hns := hid (fun a h => ordN_succ (k := k) (j := j) (a := a) h)
      have hna := hid (ordN_all k j)
      have hLm := hid (show ∀ r ∈ ordTo k j, r.length = j from fun r hr => (ordTo_mem.1 hr).1)
      have hN0 := ordN_zero k j
      obtain ⟨L, hL⟩ : ∃ l, l = ordTo k j := ⟨_, rfl⟩
      obtain ⟨N, hN⟩ : ∃ f, f = ordN k j := ⟨_, rfl⟩
      rw [← hL] at hR h27 hns hna hLm ⊢
      rw [← hN] at h81 hns hna hN0
      replace hR := hid hR
      replace hL := hid hL
      replace hN := hid hN
      have tab0 : Tab (wo.alloc (.cells #[] 27)) B (.slice (some ⟨wo.heap.size, 0, none⟩) 0 0) (N 0) R := by rw [hN0]; exact Tab.start hown hBo
      have b1 : Below B w (wo.alloc (.cells #[] 27)) := hb.alloc hBo _
      replace hN0 := hid hN0
      clear htab hown
      go_upto_region 6 with fail
      generalize wo.alloc (.cells #[] 27) = w2 at *
      generalize wo.heap.size = g2 at *
      go_wp2
      go_loopw [5, 6] (fun v i wr => ∃ a : Nat, a ≤ L.length ∧ i = .int .i64 a ∧ Tab wr B v (N a) R ∧ Below B w wr) (fun _ i _ => L.length - (intOf i).toNat)
      case atStart => exact ⟨0, by omega, rfl, tab0, b1⟩
      case round =>
        obtain ⟨a, ha, rfl, htab, hb⟩ := hrel
        obtain ⟨d3, n3, m3, rfl, hn3⟩ := htab.formN
        obtain ⟨wq, rfl⟩ : ∃ y : World, y = wr := ⟨_, rfl⟩
        by_cases hlta : a < L.length
        · obtain ⟨b, o, n7, c7, dr, mr, hd2, hfa, hcr, hir⟩ := (hR.out wq htab.rest).2 a hlta
          rw [hfa] at hcr hir
          cases hd2
          have hrl := hid (hLm.out _ (row_mem hlta))
          have hnsa := hid (hns.out a hlta)
          have h81a := h81.out (a + 1)
          rw [hnsa.out, List.length_append] at h81a
          obtain ⟨r, hr⟩ : ∃ r, r = row L a := ⟨_, rfl⟩
          rw [← hr] at hcr hir hrl hnsa h81a
          have hok := hid (show ∀ z, Own z B R → IsInts z (.slice dr r.length mr) r ∧ z.cell? ⟨b, o + a, none⟩ = some (.slice dr r.length mr) from fun z hz => by
            obtain ⟨_, _, _, _, _, _, hq, _, hc, h⟩ := (hR.out z hz).2 a hlta
            cases hq
            rw [hfa, ← hr] at h hc
            exact ⟨h, hc⟩)
          replace hfa := hid hfa
          have hlr : r.length ≤ 17592186044415 := by have := hrl.out; omega
          replace hr := hid hr
          have hS3 : Tab wq B (.slice d3 n3 m3) (N a ++ nextO r 0) R := by rw [nextO_zero, List.append_nil]; exact htab
          clear htab
          go_wp2
          go_loopw [5, 7] (fun v i wr => ∃ q : Nat, q ≤ k ∧ i = .int .i64 q ∧ Tab wr B v (N a ++ nextO r q) R ∧ Below B w wr) (fun _ i _ => k - (intOf i).toNat)
          case atStart => exact ⟨0, by omega, rfl, hS3, hb⟩
          case round =>
            obtain ⟨q, hq, rfl, htab, hb⟩ := hrel
            obtain ⟨d4, n4, m4, rfl, hn4⟩ := htab.formN
            obtain ⟨wp, rfl⟩ : ∃ y : World, y = wr := ⟨_, rfl⟩
            have hBp : B ≤ wp.heap.size := Nat.le_trans hl0 hb.size
            by_cases hltq : q < k
            · obtain ⟨hirp, hcrp⟩ := hok.out wp htab.rest
              by_cases hmem : (q : Int) ∈ r
              · have hh := hid (hasB_true.2 hmem)
                have hn := hid (nextO_succ_no hmem)
                replace hmem := hid hmem
                go_wp2_with fail
                with_reducible refine (l1Has_any (w0 := wp) (w := wp) hirp).mono ?_
                rw [hh.out]
                rintro e w4 ⟨rfl, rfl⟩
                go_wp2_with fail
                go_roundw
                case rel => exact ⟨q + 1, by omega, by go_num, by rw [hn.out]; exact htab, hb⟩
                case measure => simp [intOf]; omega
              · have hh := hid (hasB_false.2 hmem)
                have hn := hid (nextO_succ_yes hmem)
                have hql := hid (nextO_len r q)
                replace hmem := hid hmem
                go_wp2_with fail
                with_reducible refine (l1Has_any (w0 := wp) (w := wp) hirp).mono ?_
                rw [hh.out]
                rintro e w4 ⟨rfl, rfl⟩
                have tab5 := htab.lit #[] [] hBp rfl rfl (by simp) (n := 0)
                have b5 : Below B w (wp.alloc (.cells #[] 3)) := hb.alloc hBp _
                have hB5 : B ≤ (wp.alloc (.cells #[] 3)).heap.size := Nat.le_trans hl0 b5.size
                have hirq : IsInts (wp.alloc (.cells #[] 3)) (.slice dr r.length mr) r := hirp.ext
                have hcrq : (wp.alloc (.cells #[] 3)).cell? ⟨b, o + a, none⟩ = some (.slice dr r.length mr) := (inferInstance : Ext wp _).cell hcrp
                have hzz : ([] : List Int).length = 0 := rfl
                have hlN : (N a ++ nextO r q).length ≤ 1000 := by rw [List.length_append]; have := hql.out; have := h81.out a; omega
                obtain ⟨Tq, hTq⟩ : ∃ l, l = N a ++ nextO r q := ⟨_, rfl⟩
                rw [← hTq] at tab5 hlN
                have hfin := hid (show N a ++ nextO r (q + 1) = Tq ++ [r ++ [(q : Int)]] by rw [hn.out, hTq, List.append_assoc])
                replace hTq := hid hTq
                clear htab
                go_wp2_with (first
                  | (at_builtin; refine wpList_more rfl (.tmp 35) (.tmp 39) rfl rfl tab5 hB5 rfl hirq (by have := hrl.out; simp; omega) ?_; intro v6 w6 tab6 b6; rw [List.nil_append] at tab6; obtain ⟨d6, n6, m6, hv6, hn6⟩ := tab6.rformN; subst hv6)
                  | (at_builtin; refine wpList_grow rfl (.tmp 40) (.tmp 42) rfl rfl tab6 (Nat.le_trans hl0 (b5.trans b6).size) rfl (by have := hrl.out; omega) ?_; intro v7 w7 tab7 b7; obtain ⟨d7, n7, m7, hv7, hn7⟩ := tab7.rformN; subst hv7)
                  | (at_builtin; refine wpList_push rfl (.tmp 34) (.tmp 44) rfl rfl tab7 (Nat.le_trans hl0 ((b5.trans b6).trans b7).size) rfl (by omega) ?_; intro v8 w8 tab8 b8))
                go_roundw
                case rel => exact ⟨q + 1, by omega, by go_num, tab8.eq hfin.out.symm, ((b5.trans b6).trans b7).trans b8⟩
                case measure => simp [intOf]; omega
            · have hqk : q = k := by omega
              go_wp2_with fail
              go_roundw
              case rel => exact ⟨a + 1, by omega, by go_num, htab.eq (by rw [hnsa.out, hqk]), hb⟩
              case measure => simp [intOf]; omega
        · have hal : a = L.length := by omega
          go_wp2_with fail
          go_roundw
          case rel => exact ⟨j + 1, by omega, by go_num, ⟨R, htab.eq (by rw [hal]; exact hna.out)⟩, hb⟩
          case measure => simp [intOf]; omega
    · have hjk : j = k := by omega
      have hrd := htab.reads (ordTo_rows hk (by omega)).1 (ordTo_rows hk (by omega)).2.1 (ordTo_rows hk (by omega)).2.2
      have hfin := hid (show IsRows wo (.slice d (ordTo k j).length m) (ordL k) by rw [hjk] at hrd ⊢; exact hrd)
      replace hjk := hid hjk
      go_wp2_with fail
      go_ret
      exact ⟨_, rfl, hfin.out, ⟨by rw [← hB.out]; exact hb⟩⟩
end Go.Proofs.YtmgcfnciejfpbaaGreat
