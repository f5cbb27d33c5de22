/- Grids turned, and the reference's question walked: l7All, l7Turned. -/
import Derived.Test.YtllfchcocgdcjaaGreatFwC
namespace Go.Proofs.YtllfchcocgdcjaaGreat
open Go.RowKit

set_option maxHeartbeats 1600000 in
set_option maxRecDepth 100000 in
theorem l7All_any (n : Nat) (hn : n ≤ 1000) (w : World) :
    Calls Tryz.prog 56 #[.int .i64 n] w fun e w' => ∃ d m, e = .returned (.slice d n m) ∧ IsBools w' (.slice d n m) ((List.range n).map fun _ => true) ∧ Ext w w' := by
  have own0 : Own (w.alloc (.cells #[] 4)) w.heap.size [browOf 4 (.slice (some ⟨w.heap.size, 0, none⟩) 0 0) []] := (Own.nil w w.heap.size).lit 4 1 0 #[] (Nat.le_refl _) (by unfold maxLen; omega) rfl
  have e0 : Ext w (w.alloc (.cells #[] 4)) := inferInstance
  obtain ⟨B, hB⟩ : ∃ B, B = w.heap.size := ⟨_, rfl⟩
  have hB0 : B ≤ (w.alloc (.cells #[] 4)).heap.size := by rw [hB]; simp
  go_enter Tryz.func56, Tryz.ntmps56
  go_upto_region 3 with fail
  rw [← hB] at own0 ⊢
  replace hB := hid hB
  generalize w.alloc (.cells #[] 4) = w1 at *
  go_loopw [3, 4] (fun ov iv wr => ∃ (i : Nat) (d : Option Addr) (m : Nat), ov = .slice d i m ∧ iv = .int .i64 i ∧ i ≤ n ∧ Own wr B [browOf 4 (.slice d i m) ((List.range i).map fun _ => true)] ∧ Below B w wr ∧ B ≤ wr.heap.size) (fun _ iv _ => n - (intOf iv).toNat)
  case atStart => exact ⟨0, _, _, rfl, rfl, by omega, own0, by rw [hB.out]; exact e0.below, hB0⟩
  case round =>
    clear own0 e0 hB0
    obtain ⟨i, d, m, rfl, rfl, hi, own, hb, hBw⟩ := hrel
    obtain ⟨wo, rfl⟩ : ∃ y : World, y = wr := ⟨_, rfl⟩
    by_cases hlt : i < n
    · have own1 : Own wo B [⟨4, 1, .slice d i m, i, ((List.range i).map fun _ => true).map Value.bool⟩] := by
        have h := own
        unfold browOf at h
        rw [List.length_map, List.length_range] at h
        exact h
      go_wp2_with (at_builtin; refine wpList_append1 rfl _ _ _ rfl elemBool rfl own1 hBw rfl rfl (by omega) (by omega) ?_; intro v1 w1 ho1 hb1; obtain ⟨d1, m1, hv1⟩ := ho1.form; (obtain rfl : v1 = .slice d1 (i + 1) m1 := hv1))
      have o2 : Own w1 B [browOf 4 (.slice d1 (i + 1) m1) ((List.range (i + 1)).map fun _ => true)] := by
        unfold browOf
        rw [List.length_map, List.length_range, List.range_succ, List.map_append, List.map_append]
        exact ho1
      go_roundw
      case rel =>
        exact ⟨i + 1, d1, m1, rfl, by go_num, by omega, o2, hb.trans hb1, Nat.le_trans hBw hb1.size⟩
      case measure => simp [intOf]; omega
    · obtain rfl : i = n := by omega
      go_wp2_with fail
      go_ret
      exact ⟨d, m, rfl, own.readsB (by simp; unfold Short; omega), ⟨by rw [← hB.out]; exact hb⟩⟩
/-- its first rows -/
def trnT (Mg : List (List Bool)) (k : Nat) : List (List Bool) := (List.range k).map fun i => (List.range Mg.length).map fun l => grf Mg l i
theorem trnT_succ (Mg : List (List Bool)) (k : Nat) : trnT Mg (k + 1) = trnT Mg k ++ [(List.range Mg.length).map fun l => grf Mg l k] := by
  unfold trnT
  rw [List.range_succ, List.map_append]
  rfl
theorem grf_trn {Mg : List (List Bool)} {k i l : Nat} (hi : i < k) (hl : l < Mg.length) : grf (trnT Mg k) i l = grf Mg l i := by
  show nthB (rowB (trnT Mg k) i) l = _
  have e : rowB (trnT Mg k) i = (List.range Mg.length).map fun l => grf Mg l i := by simp [rowB, trnT, hi]
  rw [e, nthB_range hl]
theorem row_trn {Mg : List (List Bool)} {k i : Nat} (hi : i < k) : (rowB (trnT Mg k) i).length = Mg.length := by simp [rowB, trnT, hi]
set_option maxHeartbeats 1600000 in
set_option maxRecDepth 100000 in
theorem l7Turned_any {Mg : List (List Bool)} {C : Nat} {vg : Value} {w0 w : World} [Ext w0 w] (hG : IsGrid w0 vg Mg) (hMC : ∀ r, r < Mg.length → (rowB Mg r).length = C) (hC : C ≤ 1000) (hR : Mg.length ≤ 1000) (hR1 : 1 ≤ Mg.length) :
    Calls Tryz.prog 55 #[vg] w fun e w' => ∃ v, e = .returned v ∧ IsGrid w' v (trnT Mg C) ∧ Ext w w' := by
  obtain ⟨ag, cg, rfl, lg⟩ := hG.form
  obtain ⟨bg, og, dr, mr, hd, hcr, -⟩ := hG.at (w' := w) (k := 0) (by omega)
  cases hd
  rw [hMC 0 (by omega), Nat.add_zero] at hcr
  obtain ⟨B, hB⟩ : ∃ B, B = w.heap.size := ⟨_, rfl⟩
  have tab0 : TabB (w.alloc (.cells #[] 74)) B (.slice (some ⟨w.heap.size, 0, none⟩) 0 0) (trnT Mg 0) [] := TabB.start (Own.nil w B) (by omega)
  have b0 : Below B w (w.alloc (.cells #[] 74)) := (Below.refl B w).alloc (by omega) _
  have hp : (0 : Int) < (Mg.length : Int) := by omega
  go_enter Tryz.func55, Tryz.ntmps55
  go_upto_region 3 with fail
  have hE := hid (show ∀ u, Below B w u → Ext w u from fun u h => ⟨by rw [← hB]; exact h⟩)
  have hBl : B ≤ (w.alloc (.cells #[] 74)).heap.size := by rw [hB]; simp
  replace hB := hid hB
  generalize w.alloc (.cells #[] 74) = w1 at *
  generalize w.heap.size = gt at *
  go_loopw [3, 4] (fun ov iv wr => ∃ (i : Nat) (v : Value), v = ov ∧ iv = .int .i64 i ∧ i ≤ C ∧ TabB wr B v (trnT Mg i) [] ∧ Below B w wr ∧ B ≤ wr.heap.size) (fun _ iv _ => C - (intOf iv).toNat)
  case atStart => exact ⟨0, _, rfl, rfl, by omega, tab0, b0, hBl⟩
  case round =>
    clear tab0 b0 hBl
    obtain ⟨i, v, hv, rfl, hi, tab, hb, hBw⟩ := hrel
    subst hv
    obtain ⟨wo, rfl⟩ : ∃ y : World, y = wr := ⟨_, rfl⟩
    have eo : Ext w wo := hE.out _ hb
    have hco := eo.cell hcr
    by_cases hlt : i < C
    · have tabX0 : TabBX (wo.alloc (.cells #[] 4)) B v (trnT Mg i) (.slice (some ⟨wo.heap.size, 0, none⟩) 0 0) ((List.range 0).map fun l => grf Mg l i) [] := tab.lit #[] [] hBw rfl rfl (by simp)
      have bx0 : Below B w (wo.alloc (.cells #[] 4)) := hb.alloc hBw _
      have hBx : B ≤ (wo.alloc (.cells #[] 4)).heap.size := Nat.le_trans hBw (by simp)
      go_upto_region 7 with fail
      generalize wo.alloc (.cells #[] 4) = w3 at *
      generalize wo.heap.size = g3 at *
      go_loopw [5, 6] (fun rv lv wr => ∃ (l : Nat) (u : Value), u = rv ∧ lv = .int .i64 l ∧ l ≤ Mg.length ∧ TabBX wr B v (trnT Mg i) u ((List.range l).map fun l => grf Mg l i) [] ∧ Below B w wr ∧ B ≤ wr.heap.size) (fun _ lv _ => Mg.length - (intOf lv).toNat)
      case atStart => exact ⟨0, _, rfl, rfl, by omega, tabX0, bx0, hBx⟩
      case round =>
        clear tabX0 bx0 hBx tab hb hBw hco
        obtain ⟨l, u, hu, rfl, hl, tabX, hb, hBw⟩ := hrel
        subst hu
        obtain ⟨du, mu, hu⟩ := tabX.rform
        have hu' : u = .slice du l mu := by rw [hu]; simp
        subst hu'
        clear hu
        obtain ⟨wp, rfl⟩ : ∃ y : World, y = wr := ⟨_, rfl⟩
        have ep : Ext w wp := hE.out _ hb
        have ep0 : Ext w0 wp := Ext.trans ‹Ext w0 w› ep
        by_cases hll : l < Mg.length
        · obtain ⟨b2, o2, d2, m2, hd2, hc2, hr2⟩ := hG.at (w' := wp) (k := l) hll
          cases hd2
          rw [hMC l hll] at hc2 hr2
          obtain ⟨b3, o3, hd3, hc3⟩ := hr2.at (w' := wp) (k := i) (by rw [hMC l hll]; exact hlt)
          cases hd3
          have hxl : ((List.range l).map fun l => grf Mg l i).length ≤ 1000000 := by simp; omega
          have hc3' : wp.cell? ⟨b3, o3 + i, none⟩ = some (.bool (grf Mg l i)) := hc3
          clear hc3
          go_wp2_with (at_builtin; refine wpList_growB rfl (.tmp 28) (.tmp 36) rfl rfl tabX hBw rfl hxl ?_; intro u4 w4 tab4 b4)
          have tab5 : TabBX w4 B v (trnT Mg i) u4 ((List.range (l + 1)).map fun l => grf Mg l i) [] := by
            rw [List.range_succ, List.map_append]
            exact tab4
          go_roundw
          case rel => exact ⟨l + 1, u4, rfl, by go_num, by omega, tab5, hb.trans b4, Nat.le_trans hBw b4.size⟩
          case measure => simp [intOf]; omega
        · obtain rfl : l = Mg.length := by omega
          have hxl : (trnT Mg i).length ≤ 1000000 := by simp [trnT]; omega
          go_wp2_with (at_builtin; refine wpList_pushB rfl (.tmp 38) (.tmp 40) rfl rfl tabX hBw rfl hxl ?_; intro v4 w4 tab4 b4)
          rw [← trnT_succ] at tab4
          go_roundw
          case rel => exact ⟨i + 1, v4, rfl, by go_num, by omega, tab4, hb.trans b4, Nat.le_trans hBw b4.size⟩
          case measure => simp [intOf]; omega
    · obtain rfl : i = C := by omega
      have hI : IsGrid wo v (trnT Mg i) := tab.reads (by simp [trnT]; unfold ShortRows; omega) (fun r hr => by
        obtain ⟨j, hj, rfl⟩ := List.mem_map.1 hr
        simp
        unfold Short; omega)
      go_wp2_with fail
      go_ret
      exact ⟨v, rfl, hI, eo⟩
end Go.Proofs.YtllfchcocgdcjaaGreat
