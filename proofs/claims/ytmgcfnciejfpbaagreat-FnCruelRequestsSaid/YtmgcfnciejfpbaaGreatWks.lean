/- The configurations of k servers and the costs of moves between them: made by the program. -/
import Derived.Test.YtmgcfnciejfpbaaGreatIdx
import Derived.Test.YtmgcfnciejfpbaaGreatSrvB
import Derived.Test.YtmgcfnciejfpbaaGreatSrt
import Derived.Deep.RegionHeld3
namespace Go.Proofs.YtmgcfnciejfpbaaGreat
open Go.RowKit

theorem IsMet.ext {w w' : World} {v : Value} {M : List (List Int)} (h : IsMet w v M) [e : Ext w w'] : IsMet w' v M := by
  obtain ⟨v1, h1, h2⟩ := h
  exact ⟨v1, h1, h2.ext⟩
abbrev wkRow (b : Nat) (cs : List Value) : Row := ⟨94, 3, .slice (some ⟨b, 0, none⟩) 1 1, 1, cs⟩
theorem Tab.setBox {w : World} {B e z b : Nat} {v : Value} {M : List (List Int)} {cs : List Value} {R : List Row} (h : Tab w B v M (⟨e, z, .slice (some ⟨b, 0, none⟩) 1 1, 1, cs⟩ :: R)) (j : Nat) (u : Value) :
    Tab (w.setCell ⟨b, j, none⟩ u) B v M (⟨e, z, .slice (some ⟨b, 0, none⟩) 1 1, 1, cs.set j u⟩ :: R) ∧ B ≤ b := by
  obtain ⟨vs, h1, h2⟩ := h
  have h3 := h2.perm (List.perm_middle.symm)
  exact ⟨⟨vs, h1, (h3.turn (r' := ⟨e, z, .slice (some ⟨b, 0, none⟩) 1 1, 1, cs.set j u⟩) (h3.head.stored j u).1 (h3.head.stored j u).2 (.inl rfl)).perm List.perm_middle⟩, (h3.head.lt b rfl).1⟩
theorem Tab.boxAt {w : World} {B e z b : Nat} {v : Value} {M : List (List Int)} {cs : List Value} {R : List Row} (h : Tab w B v M (⟨e, z, .slice (some ⟨b, 0, none⟩) 1 1, 1, cs⟩ :: R)) {j : Nat} (hj : j < z) :
    w.cell? ⟨b, j, none⟩ = some (cs.getD j undef) ∧ w.frozen? ⟨b, j, none⟩ = false := by
  have h3 := h.rest
  have h1 := h3.head.cellAt j (show j < 1 * z by omega)
  have h2 : cs.length = 1 * z := h3.head.1
  refine ⟨?_, h3.head.frozenAt j⟩
  rw [h1]
  simp [show j < cs.length by omega]

set_option maxHeartbeats 1600000 in
set_option maxRecDepth 100000 in
theorem worksOf_any {v : Value} {M : List (List Int)} {k : Nat} {w0 w : World} [Ext w0 w] (hm : IsMet w0 v M) (hM : metB M = true) (h1k : 1 ≤ k) (hk : k ≤ 3) :
    Calls Tryz.prog 62 #[v, .int .i64 k] w fun e w' => ∃ u, e = .returned u ∧ IsWorks w' u M (confs M.length k 0) ∧ Ext w w' := by
  have hm' := hm
  obtain ⟨v1, rfl, hR⟩ := hm
  obtain ⟨a1, c1, rfl, l1⟩ := hR.form
  have hMl := met_len hM
  have hM' := hid hM
  clear hM
  go_enter Tryz.func62, Tryz.ntmps62
  go_upto_region 1 with fail
  have e1 : Ext w (w.alloc (.cells #[.slice a1 M.length c1] 26)) := inferInstance
  have x0 : (w.alloc (.cells #[.slice a1 M.length c1] 26)).cell? ⟨w.heap.size, 0, none⟩ = some (.slice a1 M.length c1) := by go_simp
  obtain ⟨bx, hbx⟩ : ∃ q, q = w.heap.size := ⟨_, rfl⟩
  rw [← hbx] at x0 ⊢
  generalize w.alloc (.cells #[.slice a1 M.length c1] 26) = w1 at *
  replace hbx := hid hbx
  refine wp_region_held_drew (S := fun w' => w'.cell? ⟨bx, 0, none⟩ = some (.slice a1 M.length c1)) (by kernel_rfl) ((inferInstance : Ext w1 w1.drew).cell x0) (fun hHeld0 => ?_)
  have x0d := (inferInstance : Ext w1 w1.drew).cell x0
  have e1d : Ext w w1.drew := Ext.trans e1 inferInstance
  generalize w1.drew = w2 at *
  clear e1 x0
  refine wpAnyH_take (i := 0) (v := .agg #[.slice a1 M.length c1]) rfl (by kernel_rfl) (by kernel_rfl) (by kernel_rfl) (fun _ _ _ h => h) (Or.inl ⟨by rfl, by intro wx hx; go_simp⟩) (by assumption) ?_
  try simp only [List.getElem_toArray, List.getElem_cons_zero, Act.put, List.setIfInBounds_toArray, List.set_cons_zero, List.set_cons_succ]
  refine wpAnyH_take (i := 1) (v := .pointer (some ⟨bx, 0, none⟩)) rfl (by kernel_rfl) (by kernel_rfl) (by kernel_rfl) (fun _ _ _ h => h) (Or.inl ⟨by rfl, by intro wx hx; go_simp⟩) (by assumption) ?_
  try simp only [List.getElem_toArray, List.getElem_cons_succ, List.getElem_cons_zero, Act.put, List.setIfInBounds_toArray, List.set_cons_zero, List.set_cons_succ]
  refine wpAnyH_take (i := 2) (v := .slice a1 M.length c1) rfl (by kernel_rfl) (by kernel_rfl) (by kernel_rfl) (fun _ _ _ h => h) (Or.inl ⟨by rfl, by intro wx hx; go_simp⟩) (by assumption) ?_
  try simp only [List.getElem_toArray, List.getElem_cons_succ, List.getElem_cons_zero, Act.put, List.setIfInBounds_toArray, List.set_cons_zero, List.set_cons_succ]
  refine wpAnyH_take (i := 3) (v := .int .i64 M.length) rfl (by kernel_rfl) (by kernel_rfl) (by kernel_rfl) (fun _ _ _ h => h) (Or.inl ⟨by rfl, by intro wx hx; go_simp⟩) (by assumption) ?_
  try simp only [List.getElem_toArray, List.getElem_cons_succ, List.getElem_cons_zero, Act.put, List.setIfInBounds_toArray, List.set_cons_zero, List.set_cons_succ]
  refine wpAnyH_take (i := 4) (v := .int .i64 k) rfl (by kernel_rfl) (by kernel_rfl) (by kernel_rfl) (fun _ _ _ h => h) (Or.inl ⟨by rfl, by intro wx hx; go_simp⟩) (by assumption) ?_
  try simp only [List.getElem_toArray, List.getElem_cons_succ, List.getElem_cons_zero, Act.put, List.setIfInBounds_toArray, List.set_cons_zero, List.set_cons_succ]
  refine wpAnyH_ready (rs := [5]) (by kernel_rfl) (by simp) ?_
  refine AllReadyH.cons rfl (fun K hK => ?_) AllReadyH.nil
  go_simp
  go_at_call 123
  refine (configsOf_any (n := M.length) hMl.2 k 0 hk (by omega) _).mono ?_
  rintro e w3 ⟨vP, rfl, tabP, e3⟩
  obtain ⟨dP, nP, mP, rfl, hnP⟩ := tabP.formN
  have x3 := e3.cell x0d
  go_wp2_with fail
  refine hK.out _ _ x3 (fun _ => ?_)
  clear hK K
  try simp only [List.getElem_toArray, List.getElem_cons_succ, List.getElem_cons_zero, Act.put, List.setIfInBounds_toArray, List.set_cons_zero, List.set_cons_succ]
  refine wpAnyH_take (i := 6) (v := .agg #[.slice a1 M.length c1, .slice dP nP mP, .slice none 0 0]) rfl (by kernel_rfl) (by kernel_rfl) (by kernel_rfl) (fun _ _ _ h => h) (Or.inl ⟨by rfl, by intro wx hx; go_simp⟩) (by assumption) ?_
  try simp only [List.getElem_toArray, List.getElem_cons_succ, List.getElem_cons_zero, Act.put, List.setIfInBounds_toArray, List.set_cons_zero, List.set_cons_succ]
  obtain ⟨B, hB⟩ : ∃ b, b = w2.heap.size := ⟨_, rfl⟩
  rw [← hB] at tabP
  have hl3 : B ≤ w3.heap.size := by rw [hB]; exact e3.size
  have b3 : Below B w2 w3 := by rw [hB]; exact e3.below
  have hEx := hid (show ∀ u, Below B w2 u → Ext w2 u from fun u h => ⟨by rw [← hB]; exact h⟩)
  replace hB := hid hB
  have hcr := confs_rows (n := M.length) (k := k) (f := 0) hMl.2 hk
  have h216 : (confs M.length k 0).length ≤ 216 := by
    have h1 := confs_len hMl.2 k 0
    have h2 : 6 ^ k ≤ 6 ^ 3 := Nat.pow_le_pow_right (by omega) hk
    omega
  have hPm := hid (show ∀ r ∈ confs M.length k 0, r.length = k ∧ Pts M.length r from fun r hr => ⟨(confs_mem hr).1, fun x hx => by have := (confs_mem hr).2 x hx; omega⟩)
  have hdst := hid (dst_of_met hM'.out)
  obtain ⟨R, fr, hown, hP⟩ := tabP.sealed hcr.1 hcr.2.1 hcr.2.2
  clear hcr tabP
  obtain ⟨P, hPd⟩ : ∃ p, p = confs M.length k 0 := ⟨_, rfl⟩
  rw [← hPd] at hP hnP h216 hPm
  replace hPd := hid hPd
  obtain rfl : nP = P.length := hnP.out
  replace hP := hid hP
  have ownb := hown.lit 94 3 1 #[.slice a1 M.length c1, .slice dP P.length mP, .slice none 0 0] hl3 (by unfold maxLen; omega) rfl
  have b4 : Below B w2 (w3.alloc (.cells #[.slice a1 M.length c1, .slice dP P.length mP, .slice none 0 0] 94)) := b3.alloc hl3 _
  have x4 := (hEx.out _ b4).cell x0d
  refine wpAnyH_ready (rs := [7]) (by kernel_rfl) (by simp) ?_
  refine AllReadyH.cons rfl (fun K hK => ?_) AllReadyH.nil
  go_simp
  refine hK.out _ _ x4 (fun _ => ?_)
  clear hK K
  try simp only [List.getElem_toArray, List.getElem_cons_succ, List.getElem_cons_zero, Act.put, List.setIfInBounds_toArray, List.set_cons_zero, List.set_cons_succ]
  obtain ⟨bw, hbw⟩ : ∃ q, q = w3.heap.size := ⟨_, rfl⟩
  rw [← hbw] at ownb ⊢
  generalize w3.alloc (.cells #[.slice a1 M.length c1, .slice dP P.length mP, .slice none 0 0] 94) = w4 at *
  replace hbw := hid hbw
  refine wpAnyH_take (i := 8) (v := .pointer (some ⟨bw, 0, none⟩)) rfl (by kernel_rfl) (by kernel_rfl) (by kernel_rfl) (fun _ _ _ h => h) (Or.inl ⟨by rfl, by intro wx hx; go_simp⟩) (by assumption) ?_
  try simp only [List.getElem_toArray, List.getElem_cons_succ, List.getElem_cons_zero, Act.put, List.setIfInBounds_toArray, List.set_cons_zero, List.set_cons_succ]
  refine wpAnyH_done (by kernel_rfl) ?_ _
  have tab0 : Tab w4 B (.slice none 0 0) ((cosL M P).take 0) (wkRow bw [.slice a1 M.length c1, .slice dP P.length mP, .slice none 0 0] :: R) := Tab.nil ownb
  clear ownb hown x4 x3 b3 e3 hHeld0
  have hcl : (cosL M P).length = P.length := by simp [cosL]
  replace hcl := hid hcl
  have y1 := (tab0.boxAt (j := 1) (by omega)).1
  have y1' : w4.cell? ⟨bw, 1, none⟩ = some (.slice dP P.length mP) := y1
  clear y1
  go_wp2_with fail
  go_loopw [24] (fun i wr => ∃ q : Nat, q ≤ P.length ∧ i = .int .i64 q ∧ (∃ cv, Tab wr B cv ((cosL M P).take q) (wkRow bw [.slice a1 M.length c1, .slice dP P.length mP, cv] :: R)) ∧ Below B w2 wr) (fun i _ => P.length - (intOf i).toNat)
  case atStart => exact ⟨0, by omega, rfl, ⟨_, tab0⟩, b4⟩
  case round =>
    obtain ⟨q, hq, rfl, ⟨cv, tab⟩, hb⟩ := hrel
    obtain ⟨wo, rfl⟩ : ∃ y : World, y = wr := ⟨_, rfl⟩
    obtain ⟨dC, nC, mC, rfl, hnC⟩ := tab.formN
    by_cases hlt : q < P.length
    · have eo : Ext w2 wo := hEx.out _ hb
      have hBo : B ≤ wo.heap.size := by rw [hB.out]; exact eo.size
      obtain ⟨bp, op, np, cp, dr, mr, hd, hfq, hcr, hir⟩ := (hP.out wo tab.rest.tail).2 q hlt
      have hPq := hPm.out _ (row_mem hlt)
      have hTs := hid (show (cosL M P).take (q + 1) = (cosL M P).take q ++ [P.map fun b => mvC M (row P q) b] by
        have hq2 : q < (cosL M P).length := by rw [hcl.out]; exact hlt
        rw [take_succ_row hq2]
        congr 2
        simp [row, cosL, hlt])
      have hT2 : ((cosL M P).take q).length ≤ 1000 := by rw [List.length_take]; omega
      obtain ⟨T, hT⟩ : ∃ l, l = (cosL M P).take q := ⟨_, rfl⟩
      rw [← hT] at tab hTs hT2
      obtain ⟨r, hr⟩ : ∃ r, r = row P q := ⟨_, rfl⟩
      rw [← hr] at hfq hir hTs hPq
      rw [hfq] at hcr hir
      cases hd
      have hok := hid (show ∀ z, Own z B R → IsInts z (.slice dr r.length mr) r from fun z hz => by
        obtain ⟨_, _, _, _, _, _, _, _, _, h⟩ := (hP.out z hz).2 q hlt
        rw [hfq, ← hr] at h
        exact h)
      replace hPq := hid hPq
      replace hT := hid hT
      replace hr := hid hr
      replace hfq := hid hfq
      have y1 : wo.cell? ⟨bw, 1, none⟩ = some (.slice (some ⟨bp, op, none⟩) P.length mP) := (tab.boxAt (j := 1) (by omega)).1
      go_upto_region 6 with fail
      have tabX := tab.lit #[] [] hBo rfl rfl (by simp) (n := 0)
      have b1 : Below B w2 (wo.alloc (.cells #[] 3)) := hb.alloc hBo _
      have y1' : (wo.alloc (.cells #[] 3)).cell? ⟨bw, 1, none⟩ = some (.slice (some ⟨bp, op, none⟩) P.length mP) := (inferInstance : Ext wo _).cell y1
      generalize wo.alloc (.cells #[] 3) = w5 at *
      generalize wo.heap.size = g5 at *
      clear y1 tab
      have tabX0 : TabX w5 B (.slice dC nC mC) T (.slice (some ⟨g5, 0, none⟩) 0 0) ((P.take 0).map fun b => mvC M r b) (wkRow bw [.slice a1 M.length c1, .slice (some ⟨bp, op, none⟩) P.length mP, .slice dC nC mC] :: R) := tabX
      clear tabX
      go_wp2_with fail
      go_loopw [8, 34] (fun rv i wr => ∃ s : Nat, s ≤ P.length ∧ i = .int .i64 s ∧ TabX wr B (.slice dC nC mC) T rv ((P.take s).map fun b => mvC M r b) (wkRow bw [.slice a1 M.length c1, .slice (some ⟨bp, op, none⟩) P.length mP, .slice dC nC mC] :: R) ∧ Below B w2 wr) (fun _ i _ => P.length - (intOf i).toNat)
      case atStart => exact ⟨0, by omega, rfl, tabX0, b1⟩
      case round =>
        obtain ⟨s, hs, rfl, tab, hb⟩ := hrel
        obtain ⟨d6, n6, m6, rfl, hn6⟩ := tab.rformN
        obtain ⟨wq, rfl⟩ : ∃ y : World, y = wr := ⟨_, rfl⟩
        have eq : Ext w2 wq := hEx.out _ hb
        have hBq : B ≤ wq.heap.size := by rw [hB.out]; exact eq.size
        by_cases hlts : s < P.length
        · have e0q : Ext w0 wq := Ext.trans ‹Ext w0 w› (Ext.trans e1d eq)
          have hir1 := hok.out wq tab.tab.rest.tail
          obtain ⟨bp2, op2, np2, cp2, dr2, mr2, hd2, hfq2, hcr2, hir2⟩ := (hP.out wq tab.tab.rest.tail).2 s hlts
          rw [hfq2] at hcr2 hir2
          cases hd2
          have xq := eq.cell x0d
          have hPs := hid (hPm.out _ (row_mem hlts))
          have hsn := hid (show ((P.take (s + 1)).map fun b => mvC M r b) = ((P.take s).map fun b => mvC M r b) ++ [mvC M r (row P s)] by rw [take_succ_row hlts, List.map_append]; rfl)
          have hlx : ((P.take s).map fun b => mvC M r b).length ≤ 1000 := by rw [List.length_map, List.length_take]; omega
          obtain ⟨r2, hr2⟩ : ∃ r2, r2 = row P s := ⟨_, rfl⟩
          rw [← hr2] at hcr2 hir2 hPs hsn
          obtain ⟨X, hX⟩ : ∃ l, l = (P.take s).map fun b => mvC M r b := ⟨_, rfl⟩
          rw [← hX] at tab hsn hlx
          replace hX := hid hX
          replace hr2 := hid hr2
          replace hfq2 := hid hfq2
          have hmq := hm'.ext (w' := wq)
          go_wp2_with fail
          with_reducible refine (moveCost_any (w0 := wq) (w := wq) hmq hM'.out hir1 hir2 hPq.out.2 hPs.out.2 (by rw [hPq.out.1, hPs.out.1]) (by rw [hPq.out.1]; exact hk)).mono ?_
          rintro e w6 ⟨rfl, e6⟩
          have tab6 := tab.ext (w' := w6)
          have b6 : Below B w2 w6 := hb.trans (e6.below.mono hBq)
          have hB6 : B ≤ w6.heap.size := Nat.le_trans hBq e6.size
          clear tab
          generalize mvC M r r2 = y at *
          go_wp2_with (at_builtin; refine wpList_grow rfl (.tmp 38) (.tmp 43) rfl rfl tab6 hB6 rfl (by omega) ?_; intro v7 w7 tab7 b7)
          go_roundw
          case rel => exact ⟨s + 1, by omega, by go_num, by rw [hsn.out]; exact tab7, b6.trans b7⟩
          case measure => simp [intOf]; omega
        · have hsl : s = P.length := by omega
          have tab8 : TabX wq B (.slice dC nC mC) T (.slice d6 n6 m6) (P.map fun b => mvC M r b) (wkRow bw [.slice a1 M.length c1, .slice (some ⟨bp, op, none⟩) P.length mP, .slice dC nC mC] :: R) := by
            have e : (P.take s).map (fun b => mvC M r b) = P.map fun b => mvC M r b := by rw [hsl, List.take_length]
            rw [← e]; exact tab
          have y2 : wq.cell? ⟨bw, 2, none⟩ = some (.slice dC nC mC) := (tab.tab.boxAt (j := 2) (by omega)).1
          replace hsl := hid hsl
          clear tab
          go_wp2_with (at_builtin; refine wpList_push rfl (.tmp 50) (.tmp 52) rfl rfl tab8 hBq rfl (by omega) ?_; intro v9 w9 tab9 b9; obtain ⟨d9, n9, m9, hv9, hn9⟩ := tab9.formN; subst hv9; (have y9 := tab9.boxAt (j := 2) (by omega)); (have y9a : w9.cell? ⟨bw, 2, none⟩ = some (.slice dC nC mC) := y9.1); have y9b := y9.2)
          have tabF := tab9.setBox 2 (.slice d9 n9 m9)
          go_roundw
          case rel => exact ⟨q + 1, by omega, by go_num, ⟨.slice d9 n9 m9, by rw [hTs.out]; exact tabF.1⟩, (hb.trans b9).setCell tabF.2 _⟩
          case measure => simp [intOf]; omega
    · have hqn : q = P.length := by omega
      have eo : Ext w2 wo := hEx.out _ hb
      have hE : Ext w wo := Ext.trans e1d eo
      have e0o : Ext w0 wo := Ext.trans ‹Ext w0 w› hE
      have htk : (cosL M P).take q = cosL M P := by rw [hqn, ← hcl.out, List.take_length]
      rw [htk] at tab
      have z0 : wo.cell? ⟨bw, 0, none⟩ = some (.slice a1 M.length c1) := (tab.boxAt (j := 0) (by omega)).1
      have z1 : wo.cell? ⟨bw, 1, none⟩ = some (.slice dP P.length mP) := (tab.boxAt (j := 1) (by omega)).1
      have z2 : wo.cell? ⟨bw, 2, none⟩ = some (.slice dC nC mC) := (tab.boxAt (j := 2) (by omega)).1
      have hrd := tab.reads (by unfold ShortRows; rw [hcl.out]; omega) (fun r hr => by
        obtain ⟨a, _, rfl⟩ := List.mem_map.1 hr
        unfold Short; rw [List.length_map]; omega) (fun r hr x hx => by
        obtain ⟨a, ha, rfl⟩ := List.mem_map.1 hr
        obtain ⟨b, hb', rfl⟩ := List.mem_map.1 hx
        have h1 := hPm.out a ha
        have h2 := hPm.out b hb'
        have := mvC_in hdst.out h1.2 h2.2 (by rw [h1.1, h2.1]) (by rw [h1.1]; omega)
        unfold I64
        omega)
      have hfin := hid (show IsWorks wo (.pointer (some ⟨bw, 0, none⟩)) M (confs M.length k 0) by
        rw [← hPd.out]
        exact ⟨bw, _, _, _, rfl, z0, z1, z2, hR.ext, (hP.out wo tab.rest.tail).1, hrd⟩)
      clear z0 z1 z2 hrd htk
      replace hqn := hid hqn
      go_wp2_with fail
      go_ret
      exact ⟨_, rfl, hfin.out, hE⟩
end Go.Proofs.YtmgcfnciejfpbaaGreat
