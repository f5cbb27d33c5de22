/- The reference's table of the fewest faults, walked. -/
import Derived.Test.YtmabejallkjjmaaPagC
import Derived.Test.YtmabejallkjjmaaTab
import Derived.Deep.RegionHeld3
import Derived.IntWalk
namespace Go.Proofs.Ytmabejallkjjmaa
open Go.RowKit

theorem choS_page {k n S p : Nat} (hn : n ≤ 8) {x : Int} (h : x ∈ choS k n S p) : x = -1 ∨ ∃ q : Nat, x = q ∧ q < 8 ∧ S.testBit q = true := by
  rcases mem_choS h with h | ⟨q, h1, h2, h3⟩
  · exact .inl h
  · exact .inr ⟨q, h1, by omega, h3⟩
theorem choS_i64 {k n S p : Nat} (hn : n ≤ 8) : ∀ x ∈ choS k n S p, I64 x := by
  intro x h
  rcases choS_page hn h with rfl | ⟨q, rfl, h2, _⟩ <;> (unfold I64; omega)

set_option maxHeartbeats 3200000 in
set_option maxRecDepth 100000 in
theorem l5Fewest_any {vX : Value} {K n : Nat} {X : List Int} {w0 w : World} [Ext w0 w] (hK0 : 0 < K) (hn0 : 0 < n) (hn : n ≤ 8) (hlX : X.length ≤ 60) (hP : pagesB n X) (hX : IsInts w0 vX X) :
    Calls Try.prog 120 #[.int .i64 K, .int .i64 n, vX] w fun e w' => ∃ vs, vs.length = X.length + 1 ∧ e = .returned (.slice (some ⟨w.heap.size, 0, none⟩) (X.length + 1) (X.length + 1)) ∧
      Own w' w.heap.size (tbRows w.heap.size (X.length + 1) vs (fwTab K n X 0 (2 ^ n))) ∧ Ext w w' := by
  obtain ⟨aX, cX, rfl, lX⟩ := hX.form
  have hpow := pow_le_256 hn
  obtain ⟨N, hN⟩ : ∃ N, N = 2 ^ n := ⟨_, rfl⟩
  have hshl : wrap64 (2 ^ n) = ((N : Nat) : Int) := by rw [hN]; exact bit_shl n (by omega)
  rw [← hN] at hpow ⊢
  have hN' := hid hN
  replace hP := hid hP
  go_enter Try.func120, Try.ntmps120
  clear hN
  go_upto_region 2 with (at_make; refine wpList_makeOwn rfl _ _ _ rfl elemInts (X.length + 1) rfl rfl (by omega) (by omega) rfl ?_; intro hown)
  have eW1 : Ext w (w.alloc (.cells (Array.replicate (X.length + 1) (.slice none 0 0)) 27)) := inferInstance
  obtain ⟨B, hB⟩ : ∃ B, B = w.heap.size := ⟨_, rfl⟩
  generalize w.alloc (.cells (Array.replicate (X.length + 1) (.slice none 0 0)) 27) = W3 at *
  rw [← hB] at hown ⊢
  have hB3 : B ≤ W3.heap.size := by rw [hB]; exact eW1.size
  replace hB := hid hB
  have hcK : W3.cell? ⟨B, X.length, none⟩ = some (.slice none 0 0) := by
    rw [hown.cellAt (w' := W3) (j := X.length) (by omega)]
    simp
  have hfK : W3.frozen? ⟨B, X.length, none⟩ = false := hown.frozenAt X.length
  have hcK2 : (W3.alloc (.cells (Array.replicate N (.int .i64 0)) 3)).cell? ⟨B, X.length, none⟩ = some (.slice none 0 0) := Ext.cell (a := W3) inferInstance hcK
  have hfK2 : (W3.alloc (.cells (Array.replicate N (.int .i64 0)) 3)).frozen? ⟨B, X.length, none⟩ = false := (hown.ext (w' := W3.alloc (.cells (Array.replicate N (.int .i64 0)) 3))).frozenAt X.length
  go_upto_region 3 with (at_make; refine wpList_makeOwn rfl _ _ _ rfl elemInt N (congrArg (Value.int .i64) hshl) (congrArg (Value.int .i64) hshl) (by omega) (by omega) rfl ?_; intro hown4)
  have own5 : Own ((W3.alloc (.cells (Array.replicate N (.int .i64 0)) 3)).setCell ⟨B, X.length, none⟩ (.slice (some ⟨W3.heap.size, 0, none⟩) N N)) B (tbRows B (X.length + 1) ((List.replicate (X.length + 1) (.slice none 0 0)).set X.length (.slice (some ⟨W3.heap.size, 0, none⟩) N N)) (fwTab K n X X.length N)) := by
    have q4 : Own (W3.alloc (.cells (Array.replicate N (.int .i64 0)) 3)) W3.heap.size [intRowOf 3 (.slice (some ⟨W3.heap.size, 0, none⟩) N N) (List.replicate N 0)] := by
      unfold intRowOf
      rw [List.length_replicate, List.map_replicate]
      exact hown4
    have q5 := tb_start hown q4 (Ext.refl W3) inferInstance hB3 (l := X.length) (by omega) rfl
    rw [hN'.out] at q5 ⊢
    rw [fwTab_last (k := K)] at q5
    exact q5
  have eW5 : Below B W3 ((W3.alloc (.cells (Array.replicate N (.int .i64 0)) 3)).setCell ⟨B, X.length, none⟩ (.slice (some ⟨W3.heap.size, 0, none⟩) N N)) := ((Below.refl B W3).alloc hB3 _).setCell (Nat.le_refl _) _
  generalize (W3.alloc (.cells (Array.replicate N (.int .i64 0)) 3)).setCell ⟨B, X.length, none⟩ (.slice (some ⟨W3.heap.size, 0, none⟩) N N) = W at *
  have hvs0 : ((List.replicate (X.length + 1) (Value.slice none 0 0)).set X.length (.slice (some ⟨W3.heap.size, 0, none⟩) N N)).length = X.length + 1 := by simp
  generalize (List.replicate (X.length + 1) (Value.slice none 0 0)).set X.length (.slice (some ⟨W3.heap.size, 0, none⟩) N N) = vs0 at *
  have eW : Ext w W := by
    refine ⟨?_⟩
    have h1 := eW1.below
    rw [← hB.out] at h1 ⊢
    exact h1.trans eW5
  have hBW : B ≤ W.heap.size := by rw [hB.out]; exact eW.size
  clear hown hown4 hcK hfK hcK2 hfK2 eW5 hB3 eW1
  replace hvs0 := hid hvs0
  go_wp2
  go_loopw [8] (fun i wr => ∃ k : Nat, k ≤ X.length ∧ i = .int .i64 ((k : Int) - 1) ∧ Below B W wr ∧ ∃ vs, vs.length = X.length + 1 ∧ Own wr B (tbRows B (X.length + 1) vs (fwTab K n X k N))) (fun i _ => (intOf i + 1).toNat)
  case atStart => exact ⟨X.length, by omega, by go_num, Below.refl _ _, vs0, hvs0.out, own5⟩
  case round =>
    obtain ⟨k, hk, rfl, hb0, vs, hvs, hown⟩ := hrel
    obtain ⟨wo, rfl⟩ : ∃ x : World, x = wr := ⟨_, rfl⟩
    cases k with
    | zero =>
      rw [show (((0 : Nat) : Int) - 1) = (-1 : Int) by omega]
      go_wp2
      go_ret
      have eF : Ext w wo := ⟨eW.below.trans (hb0.mono (by rw [hB.out]; exact Nat.le_refl _))⟩
      rw [← hB.out]
      exact ⟨vs, hvs, rfl, hown, eF⟩
    | succ k =>
      have hk1 : ((k + 1 : Nat) : Int) - 1 = (k : Int) := by omega
      rw [hk1]
      have hlt : k < X.length := by omega
      have hpk := hid (hP.out k hlt)
      obtain ⟨p, hp⟩ := Int.eq_ofNat_of_zero_le hpk.out.1
      have hpn : p < n := by have := hpk.out.2; omega
      have hpid := hid hp
      have hd := hid (show X.length - (X.length - (k + 1) + 1) = k by omega)
      have hdown : fwTab K n X (k + 1) N = fwTab K n X k 0 := by rw [hN'.out]; exact fwTab_down
      rw [hdown] at hown
      go_wp2
      go_loopw [9] (fun q wr => ∃ s : Nat, s ≤ N ∧ q = .int .i64 s ∧ Below B W wr ∧ ∃ vs, vs.length = X.length + 1 ∧ Own wr B (tbRows B (X.length + 1) vs (fwTab K n X k s))) (fun q _ => N - (intOf q).toNat)
      case atStart => exact ⟨0, by omega, rfl, hb0, vs, hvs, hown⟩
      case round =>
        obtain ⟨s, hs, rfl, hb1, vt, hvt, hown1⟩ := hrel
        obtain ⟨wq, rfl⟩ : ∃ x : World, x = wr := ⟨_, rfl⟩
        by_cases hlts : s < N
        · have hs256 : s < 256 := by omega
          have eq0 : Ext w0 wq := Ext.trans ‹Ext w0 w› ⟨eW.below.trans (hb1.mono (by rw [hB.out]; exact Nat.le_refl _))⟩
          obtain ⟨b3, o3, rfl, hc3⟩ := hX.at (w' := wq) hlt
          rw [hp] at hc3
          have hBq : B ≤ wq.heap.size := Nat.le_trans hBW hb1.size
          go_wp2_with fail
          refine (l5Choices_any (k := K) hn hs256 (by omega) wq).mono ?_
          rintro e w4 ⟨gc, mc, rfl, hcho, he4⟩
          have hcl := choS_length (k := K) (S := s) (p := p) hn
          have hown4 := hown1.ext (w' := w4)
          have hb4 : Below B W w4 := hb1.trans (he4.below.mono hBq)
          have e04 : Ext w0 w4 := Ext.trans eq0 he4
          obtain ⟨C, hC⟩ : ∃ C, C = choS K n s p := ⟨_, rfl⟩
          rw [← hC] at hcho hcl ⊢
          have hCid := hid hC
          clear hC
          have hB4 : B ≤ w4.heap.size := Nat.le_trans hBq he4.size
          have hc4 := he4.cell hc3
          clear hc3
          replace hvt := hid hvt
          go_wp2
          go_loopw [10, 12] (fun b j wr => ∃ j' : Nat, j' ≤ C.length ∧ j = .int .i64 j' ∧ b = .int .i64 (bestJ K n X (X.length - (k + 1)) s p j') ∧ Hid (szS s ≤ K ∨ j' = 0) ∧ Ext w4 wr) (fun _ j _ => C.length - (intOf j).toNat)
          case atStart => exact ⟨0, by omega, rfl, rfl, hid (.inr rfl), Ext.refl _⟩
          case round =>
            obtain ⟨j, hj, rfl, rfl, hor, he5⟩ := hrel
            obtain ⟨wj, rfl⟩ : ∃ x : World, x = wr := ⟨_, rfl⟩
            have hown5 := hown4.ext (w' := wj)
            have e0j : Ext w0 wj := Ext.trans e04 he5
            by_cases hjC : j < C.length
            · by_cases hszk : szS s ≤ K
              · obtain ⟨g, rfl⟩ := hcho.at (j := j) hjC
                have vC : wj.cell? ⟨g, j, none⟩ = some (.int .i64 (nth C j)) := by
                  rw [(hcho.ext (w' := wj)).cellAt (w' := wj) (j := j) hjC]
                  simp [nth, hjC]
                have hmem : nth C j ∈ choS K n s p := by rw [← hCid.out]; exact nth_mem hjC
                have hxp := choS_page hn hmem
                have hxi := choS_i64 hn _ hmem
                have vX := he5.cell hc4
                have hrow : row (fwTab K n X k s) (k + 1) = fwPart K n X (k + 1) N := by rw [row_fwTab (by omega), if_neg (by omega), if_neg (by omega), hN'.out]
                have hrl : (row (fwTab K n X k s) (k + 1)).length = N := by rw [hrow, fwPart_length]
                have hNpos : 0 < N := by omega
                obtain ⟨gk, mk, hu, hBg⟩ := tb_blk hown5 hvt.out (fwTab_length _ _ _ _ _) (j := k + 1) (by omega) (by rw [hrl]; exact hNpos)
                rw [hrl] at hu
                have vT := (tb_cell hown5 hvt.out hu).1
                have hS' : aftS s (nth C j) p < N := by rw [hN'.out]; exact aft_lt (by rw [← hN'.out]; exact hlts) hpn
                have vR := (tb_at hown5 (fwTab_length _ _ _ _ _) (j := k + 1) (by omega) hu hrl hS').1
                rw [hrow, nth_fwPart hS'] at vR
                have hfin := few_in (k := K) (n := n) (X := X) hn hK0 hP.out (d := X.length - (k + 1)) (S := aftS s (nth C j) p) (by omega) (by rw [← hN'.out]; exact hS')
                have hbin := bestJ_in (k := K) (n := n) (X := X) hn hK0 hP.out (d := X.length - (k + 1)) (S := s) (p := p) (by omega) (by rw [← hN'.out]; exact hlts) hpn (j := j) (by rw [← hCid.out]; omega)
                obtain ⟨f, hf⟩ : ∃ f, f = fewT K n X (X.length - (k + 1)) (aftS s (nth C j) p) := ⟨_, rfl⟩
                obtain ⟨bv, hbv0⟩ : ∃ b, b = bestJ K n X (X.length - (k + 1)) s p j := ⟨_, rfl⟩
                obtain ⟨S', hS0⟩ : ∃ q, q = aftS s (nth C j) p := ⟨_, rfl⟩
                obtain ⟨xj, hxj⟩ : ∃ q, q = nth C j := ⟨_, rfl⟩
                rw [← hf] at vR hfin
                rw [← hbv0] at hbin ⊢
                rw [← hS0] at vR hS'
                rw [← hxj] at vC hxp hxi
                have hnx0 := bestJ_succ (k := K) (n := n) (X := X) (d := X.length - (k + 1)) (S := s) (p := p) (j := j) (by rw [← hCid.out]; exact hjC)
                rw [← hCid.out, ← hf, ← hbv0] at hnx0
                have hbid := hid hf.symm
                have hbv := hid hbv0.symm
                have hSid := hid (show aftS s xj p = S' by rw [hS0, hxj])
                clear hf hbv0 hS0 hmem hrow hrl hown5
                replace hu := hid hu
                replace hxj := hid hxj
                go_wp2_with fail
                refine (l5Size_any hs256 wj).mono ?_; rintro e w6 ⟨rfl, he6⟩
                have zC := he6.cell vC
                have zX := he6.cell vX
                have zT := he6.cell vT
                have zR := he6.cell vR
                have e46 : Ext w4 w6 := Ext.trans he5 he6
                clear vC vX vT vR he6
                go_upto_region 14 with fail
                have ed : Ext w6 (w6).drew := inferInstance
                refine wp_region_held_drew (S := fun w' => Ext w6 w' ∧ w'.cell? ⟨g, j, none⟩ = some (.int .i64 xj) ∧ w'.cell? ⟨b3, o3 + k, none⟩ = some (.int .i64 p) ∧ w'.cell? ⟨B, k + 1, none⟩ = some (.slice (some ⟨gk, 0, none⟩) N mk) ∧ w'.cell? ⟨gk, S', none⟩ = some (.int .i64 f)) (by kernel_rfl) ⟨ed, ed.cell zC, ed.cell zX, ed.cell zT, ed.cell zR⟩ (fun hHeld0 => ?_)
                refine wpAnyH_take (i := 0) (v := .slice (some ⟨B, 0, none⟩) (X.length + 1) (X.length + 1)) rfl (by kernel_rfl) (by kernel_rfl) (by kernel_rfl) (fun _ _ _ h => h) (Or.inl ⟨by rfl, by intro wx hx; go_simp⟩) (by assumption) ?_
                try simp only [List.getElem_toArray, List.getElem_cons_zero, Act.put, List.setIfInBounds_toArray, List.set_cons_zero, List.set_cons_succ]
                refine wpAnyH_take (i := 1) (v := .int .i64 k) rfl (by kernel_rfl) (by kernel_rfl) (by kernel_rfl) (fun _ _ _ h => h) (Or.inl ⟨by rfl, by intro wx hx; go_simp⟩) (by assumption) ?_
                try simp only [List.getElem_toArray, List.getElem_cons_succ, List.getElem_cons_zero, Act.put, List.setIfInBounds_toArray, List.set_cons_zero, List.set_cons_succ]
                refine wpAnyH_take (i := 2) (v := .int .i64 ((k : Int) + 1)) rfl (by kernel_rfl) (by kernel_rfl) (by kernel_rfl) (fun _ _ _ h => h) (Or.inl ⟨by rfl, by intro wx hx; go_simp; exact IntWalk.i64_in _ (by omega)⟩) (by assumption) ?_
                try simp only [List.getElem_toArray, List.getElem_cons_succ, List.getElem_cons_zero, Act.put, List.setIfInBounds_toArray, List.set_cons_zero, List.set_cons_succ]
                refine wpAnyH_take (i := 3) (v := .pointer (some ⟨B, k + 1, none⟩)) rfl (by kernel_rfl) (by kernel_rfl) (by kernel_rfl) (fun _ _ _ h => h) (Or.inl ⟨by rfl, by intro wx hx; go_simp; intro hcc; omega⟩) (by assumption) ?_
                try simp only [List.getElem_toArray, List.getElem_cons_succ, List.getElem_cons_zero, Act.put, List.setIfInBounds_toArray, List.set_cons_zero, List.set_cons_succ]
                refine wpAnyH_take (i := 4) (v := .slice (some ⟨gk, 0, none⟩) N mk) rfl (by kernel_rfl) (by kernel_rfl) (by kernel_rfl) (fun _ _ _ h => h) (Or.inl ⟨by rfl, by intro wx hx; obtain ⟨_, _, _, _, _⟩ := hx; go_simp⟩) (by assumption) ?_
                try simp only [List.getElem_toArray, List.getElem_cons_succ, List.getElem_cons_zero, Act.put, List.setIfInBounds_toArray, List.set_cons_zero, List.set_cons_succ]
                refine wpAnyH_take (i := 5) (v := .int .i64 s) rfl (by kernel_rfl) (by kernel_rfl) (by kernel_rfl) (fun _ _ _ h => h) (Or.inl ⟨by rfl, by intro wx hx; go_simp⟩) (by assumption) ?_
                try simp only [List.getElem_toArray, List.getElem_cons_succ, List.getElem_cons_zero, Act.put, List.setIfInBounds_toArray, List.set_cons_zero, List.set_cons_succ]
                refine wpAnyH_take (i := 6) (v := .slice (some ⟨b3, o3, none⟩) X.length cX) rfl (by kernel_rfl) (by kernel_rfl) (by kernel_rfl) (fun _ _ _ h => h) (Or.inl ⟨by rfl, by intro wx hx; go_simp⟩) (by assumption) ?_
                try simp only [List.getElem_toArray, List.getElem_cons_succ, List.getElem_cons_zero, Act.put, List.setIfInBounds_toArray, List.set_cons_zero, List.set_cons_succ]
                refine wpAnyH_take (i := 7) (v := .int .i64 k) rfl (by kernel_rfl) (by kernel_rfl) (by kernel_rfl) (fun _ _ _ h => h) (Or.inl ⟨by rfl, by intro wx hx; go_simp⟩) (by assumption) ?_
                try simp only [List.getElem_toArray, List.getElem_cons_succ, List.getElem_cons_zero, Act.put, List.setIfInBounds_toArray, List.set_cons_zero, List.set_cons_succ]
                refine wpAnyH_take (i := 8) (v := .pointer (some ⟨b3, o3 + k, none⟩)) rfl (by kernel_rfl) (by kernel_rfl) (by kernel_rfl) (fun _ _ _ h => h) (Or.inl ⟨by rfl, by intro wx hx; go_simp⟩) (by assumption) ?_
                try simp only [List.getElem_toArray, List.getElem_cons_succ, List.getElem_cons_zero, Act.put, List.setIfInBounds_toArray, List.set_cons_zero, List.set_cons_succ]
                refine wpAnyH_take (i := 9) (v := .int .i64 p) rfl (by kernel_rfl) (by kernel_rfl) (by kernel_rfl) (fun _ _ _ h => h) (Or.inl ⟨by rfl, by intro wx hx; obtain ⟨_, _, _, _, _⟩ := hx; go_simp⟩) (by assumption) ?_
                try simp only [List.getElem_toArray, List.getElem_cons_succ, List.getElem_cons_zero, Act.put, List.setIfInBounds_toArray, List.set_cons_zero, List.set_cons_succ]
                refine wpAnyH_take (i := 10) (v := .slice (some ⟨g, 0, none⟩) C.length mc) rfl (by kernel_rfl) (by kernel_rfl) (by kernel_rfl) (fun _ _ _ h => h) (Or.inl ⟨by rfl, by intro wx hx; go_simp⟩) (by assumption) ?_
                try simp only [List.getElem_toArray, List.getElem_cons_succ, List.getElem_cons_zero, Act.put, List.setIfInBounds_toArray, List.set_cons_zero, List.set_cons_succ]
                refine wpAnyH_take (i := 11) (v := .int .i64 j) rfl (by kernel_rfl) (by kernel_rfl) (by kernel_rfl) (fun _ _ _ h => h) (Or.inl ⟨by rfl, by intro wx hx; go_simp⟩) (by assumption) ?_
                try simp only [List.getElem_toArray, List.getElem_cons_succ, List.getElem_cons_zero, Act.put, List.setIfInBounds_toArray, List.set_cons_zero, List.set_cons_succ]
                refine wpAnyH_take (i := 12) (v := .pointer (some ⟨g, j, none⟩)) rfl (by kernel_rfl) (by kernel_rfl) (by kernel_rfl) (fun _ _ _ h => h) (Or.inl ⟨by rfl, by intro wx hx; go_simp⟩) (by assumption) ?_
                try simp only [List.getElem_toArray, List.getElem_cons_succ, List.getElem_cons_zero, Act.put, List.setIfInBounds_toArray, List.set_cons_zero, List.set_cons_succ]
                refine wpAnyH_take (i := 13) (v := .int .i64 xj) rfl (by kernel_rfl) (by kernel_rfl) (by kernel_rfl) (fun _ _ _ h => h) (Or.inl ⟨by rfl, by intro wx hx; obtain ⟨_, _, _, _, _⟩ := hx; go_simp⟩) (by assumption) ?_
                try simp only [List.getElem_toArray, List.getElem_cons_succ, List.getElem_cons_zero, Act.put, List.setIfInBounds_toArray, List.set_cons_zero, List.set_cons_succ]
                refine wpAnyH_ready (rs := [14]) (by kernel_rfl) (by simp) ?_
                refine AllReadyH.cons rfl (fun K hK => ?_) AllReadyH.nil
                go_simp
                go_at_call 157
                refine (l5After_any hs256 (by omega) hxp _).mono ?_
                rw [hSid.out]
                rintro e w7 ⟨rfl, hb7⟩
                go_wp2_with fail
                have er1 : Ext w6 w7 := Ext.trans ed hb7
                refine hK.out _ _ ⟨er1, er1.cell zC, er1.cell zX, er1.cell zT, er1.cell zR⟩ (fun hHeld1 => ?_)
                clear hK K hHeld0
                try simp only [List.getElem_toArray, List.getElem_cons_succ, List.getElem_cons_zero, Act.put, List.setIfInBounds_toArray, List.set_cons_zero, List.set_cons_succ]
                refine wpAnyH_take (i := 15) (v := .pointer (some ⟨gk, S', none⟩)) rfl (by kernel_rfl) (by kernel_rfl) (by kernel_rfl) (fun _ _ _ h => h) (Or.inl ⟨by rfl, by intro wx hx; go_simp⟩) (by assumption) ?_
                try simp only [List.getElem_toArray, List.getElem_cons_succ, List.getElem_cons_zero, Act.put, List.setIfInBounds_toArray, List.set_cons_zero, List.set_cons_succ]
                refine wpAnyH_take (i := 16) (v := .int .i64 f) rfl (by kernel_rfl) (by kernel_rfl) (by kernel_rfl) (fun _ _ _ h => h) (Or.inl ⟨by rfl, by intro wx hx; obtain ⟨_, _, _, _, _⟩ := hx; go_simp⟩) (by assumption) ?_
                try simp only [List.getElem_toArray, List.getElem_cons_succ, List.getElem_cons_zero, Act.put, List.setIfInBounds_toArray, List.set_cons_zero, List.set_cons_succ]
                refine wpAnyH_take (i := 17) (v := .int .i64 f) rfl (by kernel_rfl) (by kernel_rfl) (by kernel_rfl) (fun _ _ _ h => h) (Or.inl ⟨by rfl, by intro wx hx; go_simp⟩) (by assumption) ?_
                try simp only [List.getElem_toArray, List.getElem_cons_succ, List.getElem_cons_zero, Act.put, List.setIfInBounds_toArray, List.set_cons_zero, List.set_cons_succ]
                refine wpAnyH_done (by kernel_rfl) ?_ _
                have yX := er1.cell zX
                have e47 : Ext w4 w7 := Ext.trans e46 er1
                cases hb : s.testBit p with
                | true =>
                  replace hb := hid hb
                  go_wp2_with fail
                  refine (l5In_any hs256 (by omega) _).mono ?_; rw [hb.out]; rintro e w8 ⟨rfl, he8⟩
                  have er9 : Ext w4 w8 := Ext.trans e47 he8
                  clear he8
                  rw [hb.out] at hnx0
                  have hnx := hid hnx0
                  clear hnx0
                  by_cases hneg : bv < 0
                  · have hnew := hid (show bestJ K n X (X.length - (k + 1)) s p (j + 1) = f by rw [hnx.out]; unfold fewStep; rw [if_pos (.inl hneg)]; simp)
                    go_wp2_with fail
                    go_roundw
                    case rel => exact ⟨j + 1, by omega, by go_num, by rw [hnew.out], hid (.inl hszk), er9⟩
                    case measure => simp [intOf]; omega
                  · by_cases hsm : f < bv
                    · have hnew := hid (show bestJ K n X (X.length - (k + 1)) s p (j + 1) = f by rw [hnx.out]; unfold fewStep; rw [if_pos (.inr (by simpa using hsm))]; simp)
                      go_wp2_with fail
                      go_roundw
                      case rel => exact ⟨j + 1, by omega, by go_num, by rw [hnew.out], hid (.inl hszk), er9⟩
                      case measure => simp [intOf]; omega
                    · have hnew := hid (show bestJ K n X (X.length - (k + 1)) s p (j + 1) = bv by rw [hnx.out]; unfold fewStep; rw [if_neg (by simp; omega)])
                      go_wp2_with fail
                      go_roundw
                      case rel => exact ⟨j + 1, by omega, by go_num, by rw [hnew.out], hid (.inl hszk), er9⟩
                      case measure => simp [intOf]; omega
                | false =>
                  replace hb := hid hb
                  go_wp2_with fail
                  refine (l5In_any hs256 (by omega) _).mono ?_; rw [hb.out]; rintro e w8 ⟨rfl, he8⟩
                  have er9 : Ext w4 w8 := Ext.trans e47 he8
                  clear he8
                  rw [hb.out] at hnx0
                  have hnx := hid hnx0
                  clear hnx0
                  by_cases hneg : bv < 0
                  · have hnew := hid (show bestJ K n X (X.length - (k + 1)) s p (j + 1) = (f+1) by rw [hnx.out]; unfold fewStep; rw [if_pos (.inl hneg)]; simp)
                    go_wp2_with fail
                    go_roundw
                    case rel => exact ⟨j + 1, by omega, by go_num, by rw [hnew.out], hid (.inl hszk), er9⟩
                    case measure => simp [intOf]; omega
                  · by_cases hsm : (f+1) < bv
                    · have hnew := hid (show bestJ K n X (X.length - (k + 1)) s p (j + 1) = (f+1) by rw [hnx.out]; unfold fewStep; rw [if_pos (.inr (by simpa using hsm))]; simp)
                      go_wp2_with fail
                      go_roundw
                      case rel => exact ⟨j + 1, by omega, by go_num, by rw [hnew.out], hid (.inl hszk), er9⟩
                      case measure => simp [intOf]; omega
                    · have hnew := hid (show bestJ K n X (X.length - (k + 1)) s p (j + 1) = bv by rw [hnx.out]; unfold fewStep; rw [if_neg (by simp; omega)])
                      go_wp2_with fail
                      go_roundw
                      case rel => exact ⟨j + 1, by omega, by go_num, by rw [hnew.out], hid (.inl hszk), er9⟩
                      case measure => simp [intOf]; omega
              · have hex := hid (show bestJ K n X (X.length - (k + 1)) s p j = fewT K n X (X.length - k) s by
                  have hj0 : j = 0 := by
                    rcases hor.out with h | h
                    · exact absurd h hszk
                    · exact h
                  have e1 : X.length - k = (X.length - (k + 1)) + 1 := by omega
                  rw [hj0, e1, few_big hszk]
                  rfl)
                have e46 := he5
                go_wp2_with fail
                refine (l5Size_any hs256 wj).mono ?_; rintro e w6 ⟨rfl, he6⟩
                have own6 := hown5.ext (w' := w6)
                have eq6 : Ext wq w6 := Ext.trans he4 (Ext.trans he5 he6)
                clear hown5
                obtain ⟨bv, hbv0⟩ : ∃ b, b = bestJ K n X (X.length - (k + 1)) s p j := ⟨_, rfl⟩
                rw [← hbv0] at hex ⊢
                clear hbv0
                obtain ⟨u, hu⟩ : ∃ u, vt[k]? = some u := ⟨_, List.getElem?_eq_getElem (by have := hvt.out; omega)⟩
                have hrowk : row (fwTab K n X k s) k = fwPart K n X k s := by rw [row_fwTab (by omega), if_neg (by omega), if_pos rfl]
                have hpick := tb_pick own6 (fwTab_length _ _ _ _ _) (j := k) (by omega) hu
                rw [hrowk] at hpick
                obtain ⟨d6, m6, rfl⟩ := hpick.formInts
                have vK := (tb_cell own6 hvt.out hu).1
                have hl6 := hid (fwPart_length K n X k s)
                have hB6 : B ≤ w6.heap.size := Nat.le_trans hBq eq6.size
                have hb6 : Below B W w6 := hb1.trans (eq6.below.mono hBq)
                have hfw := hid (fwTab_set (k := K) (n := n) (X := X) (i := k) (s := s) (by omega))
                have hsu := hid (fwPart_succ K n X k s)
                clear hrowk own6
                replace hu := hid hu
                go_wp2_with (at_builtin; refine wpList_append1 rfl _ _ _ rfl elemInt rfl hpick hB6 rfl rfl (by have := hl6.out; omega) (by have := hl6.out; omega) ?_; intro v1 w1 ho hbe; have ho2 : Own w1 B (intRowOf 3 v1 (fwPart K n X k (s + 1)) :: (tbRows B (X.length + 1) vt (fwTab K n X k s)).eraseIdx (k + 1)) := (by rw [hsu.out, ← hex.out]; exact own_snoc ho rfl); obtain ⟨d1, m1, rfl⟩ := ho2.formInts; obtain ⟨gc1, gf1, go1⟩ := tb_grow ho2 hvt.out (fwTab_length _ _ _ _ _) (by omega); rw [hfw.out] at go1; clear ho)
                go_roundw
                case rel => exact ⟨s + 1, by omega, by go_num, (hb6.trans hbe).setCell (Nat.le_refl _) _, _, by rw [List.length_set]; exact hvt.out, go1⟩
                case measure => simp [intOf]; omega
            · have hjE : j = C.length := by omega
              have hex := hid (show bestJ K n X (X.length - (k + 1)) s p j = fewT K n X (X.length - k) s by
                have e1 : X.length - k = (X.length - (k + 1)) + 1 := by omega
                by_cases hszk : szS s ≤ K
                · have hpn2 : (nth X (X.length - ((X.length - (k + 1)) + 1))).toNat = p := by rw [hd.out, hpid.out, Int.toNat_natCast]
                  have h2 := bestJ_end (k := K) (n := n) (X := X) (d := X.length - (k + 1)) (S := s) hszk
                  rw [hpn2, ← hCid.out] at h2
                  rw [hjE, e1, h2]
                · have hj0 : j = 0 := by
                    rcases hor.out with h | h
                    · exact absurd h hszk
                    · exact h
                  rw [hj0, e1, few_big hszk]
                  rfl)
              obtain ⟨w6, rfl⟩ : ∃ x : World, x = wj := ⟨_, rfl⟩
              have own6 := hown5
              have eq6 : Ext wq w6 := Ext.trans he4 he5
              clear hown5
              replace hjE := hid hjE
              obtain ⟨bv, hbv0⟩ : ∃ b, b = bestJ K n X (X.length - (k + 1)) s p j := ⟨_, rfl⟩
              rw [← hbv0] at hex ⊢
              clear hbv0
              obtain ⟨u, hu⟩ : ∃ u, vt[k]? = some u := ⟨_, List.getElem?_eq_getElem (by have := hvt.out; omega)⟩
              have hrowk : row (fwTab K n X k s) k = fwPart K n X k s := by rw [row_fwTab (by omega), if_neg (by omega), if_pos rfl]
              have hpick := tb_pick own6 (fwTab_length _ _ _ _ _) (j := k) (by omega) hu
              rw [hrowk] at hpick
              obtain ⟨d6, m6, rfl⟩ := hpick.formInts
              have vK := (tb_cell own6 hvt.out hu).1
              have hl6 := hid (fwPart_length K n X k s)
              have hB6 : B ≤ w6.heap.size := Nat.le_trans hBq eq6.size
              have hb6 : Below B W w6 := hb1.trans (eq6.below.mono hBq)
              have hfw := hid (fwTab_set (k := K) (n := n) (X := X) (i := k) (s := s) (by omega))
              have hsu := hid (fwPart_succ K n X k s)
              clear hrowk own6
              replace hu := hid hu
              go_wp2_with (at_builtin; refine wpList_append1 rfl _ _ _ rfl elemInt rfl hpick hB6 rfl rfl (by have := hl6.out; omega) (by have := hl6.out; omega) ?_; intro v1 w1 ho hbe; have ho2 : Own w1 B (intRowOf 3 v1 (fwPart K n X k (s + 1)) :: (tbRows B (X.length + 1) vt (fwTab K n X k s)).eraseIdx (k + 1)) := (by rw [hsu.out, ← hex.out]; exact own_snoc ho rfl); obtain ⟨d1, m1, rfl⟩ := ho2.formInts; obtain ⟨gc1, gf1, go1⟩ := tb_grow ho2 hvt.out (fwTab_length _ _ _ _ _) (by omega); rw [hfw.out] at go1; clear ho)
              go_roundw
              case rel => exact ⟨s + 1, by omega, by go_num, (hb6.trans hbe).setCell (Nat.le_refl _) _, _, by rw [List.length_set]; exact hvt.out, go1⟩
              case measure => simp [intOf]; omega
        · have hsN : s = N := by omega
          subst hsN
          go_wp2
          go_roundw
          case rel => exact ⟨k, by omega, by go_num, hb1, vt, hvt, hown1⟩
          case measure => simp [intOf]
end Go.Proofs.Ytmabejallkjjmaa
