/- The configurations, of the reference, as a table of one's own. -/
import Derived.Test.YtkibmjenjgijmaaGrH
namespace Go.Proofs.Ytkibmjenjgijmaa
open Go.RowKit

set_option maxHeartbeats 1600000 in
set_option maxRecDepth 100000 in
theorem l6ConfigsO_any {n k : Nat} (hn : n ≤ 6) (hk : k ≤ 3) (w : World) :
    Calls Try.prog 43 #[.int .i64 n, .int .i64 k] w fun e w' => ∃ v R, e = .returned v ∧ Tab w' w.heap.size v (confs n k 0) R ∧ Ext w w' := by
  go_enter Try.func43, Try.ntmps43
  go_upto_region 2 with fail
  have hS := Tab.one w
  have e0 : Ext w ((w.alloc (.cells #[] 3)).alloc (.cells #[.slice (some ⟨w.heap.size, 0, none⟩) 0 0] 27)) := inferInstance
  obtain ⟨B, hB⟩ : ∃ b, b = w.heap.size := ⟨_, rfl⟩
  have b0 : Below B w ((w.alloc (.cells #[] 3)).alloc (.cells #[.slice (some ⟨w.heap.size, 0, none⟩) 0 0] 27)) := by rw [hB]; exact e0.below
  rw [← hB] at hS b0 ⊢
  have hl0 : B ≤ w.heap.size := Nat.le_of_eq hB
  generalize (w.alloc (.cells #[] 3)).alloc (.cells #[.slice (some ⟨B, 0, none⟩) 0 0] 27) = w1 at *
  replace hB := hid hB
  clear e0
  have hS0 : Tab w1 B (.slice (some ⟨B + 1, 0, none⟩) 1 1) (itTo n 0) [] := hS
  clear hS
  go_wp2
  go_loopw [5, 6] (fun v i wr => ∃ j : Nat, j ≤ k ∧ i = .int .i64 j ∧ (∃ R, Tab wr B v (itTo n j) R) ∧ Below B w wr) (fun _ i _ => k - (intOf i).toNat)
  case atStart => exact ⟨0, by omega, rfl, ⟨_, hS0⟩, b0⟩
  case round =>
    obtain ⟨j, hj, rfl, ⟨R0, htab⟩, hb⟩ := hrel
    obtain ⟨d, m, rfl⟩ := htab.form
    obtain ⟨wo, rfl⟩ : ∃ y : World, y = wr := ⟨_, rfl⟩
    have hBo : B ≤ wo.heap.size := Nat.le_trans hl0 hb.size
    by_cases hlt : j < k
    · obtain ⟨R, fr, hown, hR⟩ := htab.sealed (itTo_rows hn (show j ≤ 3 by omega)).1 (itTo_rows hn (show j ≤ 3 by omega)).2.1 (itTo_rows hn (show j ≤ 3 by omega)).2.2
      have h27 := itTo_len hn (show j ≤ 3 by omega)
      have h81 := hid (fun a => itN_len (n := n) (i := j) (a := a) hn (by omega))
      have hns := hid (fun a h => itN_succ (n := n) (i := j) (a := a) h)
      have hna := hid (itN_all n j)
      have hLm := hid (show ∀ r ∈ itTo n j, r.length = j ∧ (∀ x ∈ r, 0 ≤ x ∧ x < (n : Int)) from fun r hr => by
        rw [itTo_confs] at hr
        exact ⟨(confs_mem hr).1, fun x hx => by have := (confs_mem hr).2 x hx; omega⟩)
      have hN0 := itN_zero n j
      obtain ⟨L, hL⟩ : ∃ l, l = itTo n j := ⟨_, rfl⟩
      obtain ⟨N, hN⟩ : ∃ f, f = itN n j := ⟨_, rfl⟩
      rw [← hL] at hR h27 hns hna hLm ⊢
      rw [← hN] at h81 hns hna hN0
      replace hR := hid hR
      replace hL := hid hL
      replace hN := hid hN
      have tab0 : Tab (wo.alloc (.cells #[] 27)) B (.slice (some ⟨wo.heap.size, 0, none⟩) 0 0) (N 0) R := by rw [hN0]; exact Tab.start hown hBo
      have b1 : Below B w (wo.alloc (.cells #[] 27)) := hb.alloc hBo _
      replace hN0 := hid hN0
      clear htab hown
      go_upto_region 6 with fail
      generalize wo.alloc (.cells #[] 27) = w2 at *
      generalize wo.heap.size = g2 at *
      go_wp2
      go_loopw [7, 8] (fun v i wr => ∃ a : Nat, a ≤ L.length ∧ i = .int .i64 a ∧ Tab wr B v (N a) R ∧ Below B w wr) (fun _ i _ => L.length - (intOf i).toNat)
      case atStart => exact ⟨0, by omega, rfl, tab0, b1⟩
      case round =>
        obtain ⟨a, ha, rfl, htab, hb⟩ := hrel
        obtain ⟨d3, n3, m3, rfl, hn3⟩ := htab.formN
        obtain ⟨wq, rfl⟩ : ∃ y : World, y = wr := ⟨_, rfl⟩
        by_cases hlta : a < L.length
        · obtain ⟨b, o, n7, c7, dr, mr, hd2, hfa, hcr, hir⟩ := (hR.out wq htab.rest).2 a hlta
          rw [hfa] at hcr hir
          cases hd2
          have hrl := hid (hLm.out _ (row_mem hlta)).1
          have hrp := hid (hLm.out _ (row_mem hlta)).2
          have hnsa := hid (hns.out a hlta)
          have h81a := h81.out (a + 1)
          rw [hnsa.out, List.length_append] at h81a
          obtain ⟨r, hr⟩ : ∃ r, r = row L a := ⟨_, rfl⟩
          rw [← hr] at hcr hir hrl hrp hnsa h81a
          have hok := hid (show ∀ z, Own z B R → IsInts z (.slice dr r.length mr) r ∧ z.cell? ⟨b, o + a, none⟩ = some (.slice dr r.length mr) from fun z hz => by
            obtain ⟨_, _, _, _, _, _, hq, _, hc, h⟩ := (hR.out z hz).2 a hlta
            cases hq
            rw [hfa, ← hr] at h hc
            exact ⟨h, hc⟩)
          replace hfa := hid hfa
          have hlr : r.length ≤ 17592186044415 := by have := hrl.out; omega
          replace hr := hid hr
          have hfr := hid (frm_in hrp.out)
          have hfr2 := hid (frm_last hrp.out)
          have hS3 : Tab wq B (.slice d3 n3 m3) (N a ++ extT r (frm r)) R := by rw [extT_start, List.append_nil]; exact htab
          clear htab
          by_cases hj0 : j = 0
          · have hjb : ¬ 0 < j := by omega
            have hf0 := hid (show (frm r : Int) = 0 by rw [hfr2.out, nth_none (by have := hrl.out; omega)])
            replace hj0 := hid hj0
            go_wp2_with fail
            go_loopw [7, 10] (fun v i wr => ∃ q : Nat, frm r ≤ q ∧ q ≤ n ∧ i = .int .i64 q ∧ Tab wr B v (N a ++ extT r q) R ∧ Below B w wr) (fun _ i _ => n - (intOf i).toNat)
            case atStart => exact ⟨frm r, Nat.le_refl _, hfr.out, (by rw [hf0.out]), hS3, hb⟩
            case round =>
              obtain ⟨q, hfq, hq, rfl, htab, hb⟩ := hrel
              obtain ⟨d4, n4, m4, rfl, hn4⟩ := htab.formN
              obtain ⟨wp, rfl⟩ : ∃ y : World, y = wr := ⟨_, rfl⟩
              have hBp : B ≤ wp.heap.size := Nat.le_trans hl0 hb.size
              by_cases hltq : q < n
              · obtain ⟨hirp, hcrp⟩ := hok.out wp htab.rest
                have hn := hid (extT_succ hfq)
                have hql := hid (extT_len r q)
                have tab5 := htab.lit #[] [] hBp rfl rfl (by simp) (n := 0)
                have b5 : Below B w (wp.alloc (.cells #[] 3)) := hb.alloc hBp _
                have hB5 : B ≤ (wp.alloc (.cells #[] 3)).heap.size := Nat.le_trans hl0 b5.size
                have hirq : IsInts (wp.alloc (.cells #[] 3)) (.slice dr r.length mr) r := hirp.ext
                have hcrq : (wp.alloc (.cells #[] 3)).cell? ⟨b, o + a, none⟩ = some (.slice dr r.length mr) := (inferInstance : Ext wp _).cell hcrp
                have hzz : ([] : List Int).length = 0 := rfl
                have hlN : (N a ++ extT r q).length ≤ 2000 := by rw [List.length_append]; have := hql.out; have := h81.out a; omega
                obtain ⟨Tq, hTq⟩ : ∃ l, l = N a ++ extT r q := ⟨_, rfl⟩
                rw [← hTq] at tab5 hlN
                have hfin := hid (show N a ++ extT r (q + 1) = Tq ++ [r ++ [(q : Int)]] by rw [hn.out, hTq, List.append_assoc])
                replace hTq := hid hTq
                clear htab
                go_wp2_with (first
                  | (at_builtin; refine wpList_more rfl (.tmp 42) (.tmp 46) rfl rfl tab5 hB5 rfl hirq (by have := hrl.out; simp; omega) ?_; intro v6 w6 tab6 b6; rw [List.nil_append] at tab6; obtain ⟨d6, n6, m6, hv6, hn6⟩ := tab6.rformN; subst hv6)
                  | (at_builtin; refine wpList_grow rfl (.tmp 47) (.tmp 49) rfl rfl tab6 (Nat.le_trans hl0 (b5.trans b6).size) rfl (by have := hrl.out; omega) ?_; intro v7 w7 tab7 b7; obtain ⟨d7, n7, m7, hv7, hn7⟩ := tab7.rformN; subst hv7)
                  | (at_builtin; refine wpList_push rfl (.tmp 41) (.tmp 51) rfl rfl tab7 (Nat.le_trans hl0 ((b5.trans b6).trans b7).size) rfl (by omega) ?_; intro v8 w8 tab8 b8))
                go_roundw
                case rel => exact ⟨q + 1, by omega, by omega, by go_num, tab8.eq hfin.out.symm, ((b5.trans b6).trans b7).trans b8⟩
                case measure => simp [intOf]; omega
              · have hqk : q = n := by omega
                go_wp2_with fail
                go_roundw
                case rel => exact ⟨a + 1, by omega, by go_num, htab.eq (by rw [hnsa.out, hqk]), hb⟩
                case measure => simp [intOf]; omega
          · have hjb : 0 < j := by omega
            replace hj0 := hid hj0
            obtain ⟨b2, o2, hd2, hc2⟩ := hir.at (w' := wq) (k := j - 1) (by have := hrl.out; omega)
            have hjl : j - 1 < r.length := by have := hrl.out; omega
            have hj1 : ((j : Int) - 1) = ((j - 1 : Nat) : Int) := by omega
            have hff := hid (show (frm r : Int) = nth r (j - 1) by rw [hfr2.out, hrl.out])
            subst hd2
            go_wp2_with fail
            go_loopw [7, 10] (fun v i wr => ∃ q : Nat, frm r ≤ q ∧ q ≤ n ∧ i = .int .i64 q ∧ Tab wr B v (N a ++ extT r q) R ∧ Below B w wr) (fun _ i _ => n - (intOf i).toNat)
            case atStart => exact ⟨frm r, Nat.le_refl _, hfr.out, (by rw [hff.out]), hS3, hb⟩
            case round =>
              obtain ⟨q, hfq, hq, rfl, htab, hb⟩ := hrel
              obtain ⟨d4, n4, m4, rfl, hn4⟩ := htab.formN
              obtain ⟨wp, rfl⟩ : ∃ y : World, y = wr := ⟨_, rfl⟩
              have hBp : B ≤ wp.heap.size := Nat.le_trans hl0 hb.size
              by_cases hltq : q < n
              · obtain ⟨hirp, hcrp⟩ := hok.out wp htab.rest
                have hn := hid (extT_succ hfq)
                have hql := hid (extT_len r q)
                have tab5 := htab.lit #[] [] hBp rfl rfl (by simp) (n := 0)
                have b5 : Below B w (wp.alloc (.cells #[] 3)) := hb.alloc hBp _
                have hB5 : B ≤ (wp.alloc (.cells #[] 3)).heap.size := Nat.le_trans hl0 b5.size
                have hirq : IsInts (wp.alloc (.cells #[] 3)) (.slice (some ⟨b2, o2, none⟩) r.length mr) r := hirp.ext
                have hcrq : (wp.alloc (.cells #[] 3)).cell? ⟨b, o + a, none⟩ = some (.slice (some ⟨b2, o2, none⟩) r.length mr) := (inferInstance : Ext wp _).cell hcrp
                have hzz : ([] : List Int).length = 0 := rfl
                have hlN : (N a ++ extT r q).length ≤ 2000 := by rw [List.length_append]; have := hql.out; have := h81.out a; omega
                obtain ⟨Tq, hTq⟩ : ∃ l, l = N a ++ extT r q := ⟨_, rfl⟩
                rw [← hTq] at tab5 hlN
                have hfin := hid (show N a ++ extT r (q + 1) = Tq ++ [r ++ [(q : Int)]] by rw [hn.out, hTq, List.append_assoc])
                replace hTq := hid hTq
                clear htab
                go_wp2_with (first
                  | (at_builtin; refine wpList_more rfl (.tmp 42) (.tmp 46) rfl rfl tab5 hB5 rfl hirq (by have := hrl.out; simp; omega) ?_; intro v6 w6 tab6 b6; rw [List.nil_append] at tab6; obtain ⟨d6, n6, m6, hv6, hn6⟩ := tab6.rformN; subst hv6)
                  | (at_builtin; refine wpList_grow rfl (.tmp 47) (.tmp 49) rfl rfl tab6 (Nat.le_trans hl0 (b5.trans b6).size) rfl (by have := hrl.out; omega) ?_; intro v7 w7 tab7 b7; obtain ⟨d7, n7, m7, hv7, hn7⟩ := tab7.rformN; subst hv7)
                  | (at_builtin; refine wpList_push rfl (.tmp 41) (.tmp 51) rfl rfl tab7 (Nat.le_trans hl0 ((b5.trans b6).trans b7).size) rfl (by omega) ?_; intro v8 w8 tab8 b8))
                go_roundw
                case rel => exact ⟨q + 1, by omega, by omega, by go_num, tab8.eq hfin.out.symm, ((b5.trans b6).trans b7).trans b8⟩
                case measure => simp [intOf]; omega
              · have hqk : q = n := by omega
                go_wp2_with fail
                go_roundw
                case rel => exact ⟨a + 1, by omega, by go_num, htab.eq (by rw [hnsa.out, hqk]), hb⟩
                case measure => simp [intOf]; omega
        · have hal : a = L.length := by omega
          go_wp2_with fail
          go_roundw
          case rel => exact ⟨j + 1, by omega, by go_num, ⟨R, htab.eq (by rw [hal]; exact hna.out)⟩, hb⟩
          case measure => simp [intOf]; omega
    · have hjk : j = k := by omega
      have hfin := hid (show Tab wo w.heap.size (.slice d (itTo n j).length m) (confs n k 0) R0 by rw [← itTo_confs, ← hjk, ← hB.out]; exact htab)
      replace hjk := hid hjk
      go_wp2_with fail
      go_ret
      exact ⟨_, R0, rfl, hfin.out, ⟨by rw [← hB.out]; exact hb⟩⟩
end Go.Proofs.Ytkibmjenjgijmaa
