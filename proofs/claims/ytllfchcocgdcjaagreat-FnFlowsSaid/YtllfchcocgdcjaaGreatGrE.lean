/- Several texts in one: Ord OrdS Mat MatS. -/
import Derived.Test.YtllfchcocgdcjaaGreatGrD
import Derived.Test.YtllfchcocgdcjaaGreatGrC
/- The orders of the numbers below k: of the program and of the reference. -/
namespace Go.Proofs.YtllfchcocgdcjaaGreat
open Go.RowKit

theorem Tab.formN {w : World} {B : Nat} {v : Value} {M : List (List Int)} {R : List Row} (h : Tab w B v M R) : ∃ d n m, v = .slice d n m ∧ Hid (n = M.length) := by
  obtain ⟨d, m, h⟩ := h.form
  exact ⟨d, _, m, h, rfl⟩
theorem TabX.rformN {w : World} {B : Nat} {v rv : Value} {M : List (List Int)} {xs : List Int} {R : List Row} (h : TabX w B v M rv xs R) : ∃ d n m, rv = .slice d n m ∧ Hid (n = xs.length) := by
  obtain ⟨d, m, h⟩ := h.rform
  exact ⟨d, _, m, h, rfl⟩
theorem Tab.sealed {w : World} {B : Nat} {v : Value} {M : List (List Int)} {R : List Row} (h : Tab w B v M R) (hs : ShortRows M.length) (hr : ∀ r ∈ M, Short r.length) (hi : ∀ r ∈ M, ∀ x ∈ r, I64 x) :
    ∃ R' : List Row, ∃ f : Nat → Value, Own w B R' ∧ ∀ z, Own z B R' → IsRows z v M ∧ ∀ j, j < M.length → ∃ b o n c d m, v = .slice (some ⟨b, o, none⟩) n c ∧ f j = .slice d (row M j).length m ∧ z.cell? ⟨b, o + j, none⟩ = some (f j) ∧ IsInts z (f j) (row M j) := by
  obtain ⟨vs, h1, h2⟩ := h
  refine ⟨_, fun j => vs.getD j undef, h2, fun z hz => ⟨hz.readsAll h1 hs hr hi, fun j hj => ?_⟩⟩
  have h3 : Own z B (⟨27, 1, v, vs.length, vs⟩ :: (List.zipWith (intRowOf 3) vs M ++ R)) := hz
  obtain ⟨a, c, hv⟩ := h3.form
  have hv' : v = .slice a vs.length c := hv
  subst hv'
  have hj' : j < vs.length := by omega
  obtain ⟨g, rfl⟩ := h3.at hj'
  have h4 : (List.zipWith (intRowOf 3) vs M ++ R)[j]? = some (intRowOf 3 (vs.getD j undef) (row M j)) := by
    rw [List.getElem?_append_left (by simp; omega)]
    simp [List.getElem?_zipWith, hj', row, hj]
  have h5 := (h3.tail.pick h4).reads (hr _ (row_mem hj)) (hi _ (row_mem hj))
  obtain ⟨d, m, h6, _⟩ := h5.form
  refine ⟨g, 0, _, c, d, m, rfl, h6, ?_, h5⟩
  rw [Nat.zero_add]
  exact h3.cellAt (w' := z) hj'
theorem Tab.one (w : World) : Tab ((w.alloc (.cells #[] 3)).alloc (.cells #[.slice (some ⟨w.heap.size, 0, none⟩) 0 0] 27)) w.heap.size (.slice (some ⟨w.heap.size + 1, 0, none⟩) 1 1) [[]] [] := by
  have h1 := (Own.nil w w.heap.size).lit 3 1 0 #[] (Nat.le_refl _) (by unfold maxLen; omega) rfl
  have h2 := h1.lit 27 1 1 #[.slice (some ⟨w.heap.size, 0, none⟩) 0 0] (by simp) (by unfold maxLen; omega) rfl
  rw [show (w.alloc (.cells #[] 3)).heap.size = w.heap.size + 1 by simp] at h2
  exact ⟨[.slice (some ⟨w.heap.size, 0, none⟩) 0 0], rfl, h2⟩

set_option maxHeartbeats 1600000 in
set_option maxRecDepth 100000 in
theorem orders_any {k : Nat} (hk : k ≤ 3) (w : World) :
    Calls Tryz.prog 113 #[.int .i64 k] w fun e w' => ∃ v, e = .returned v ∧ IsRows w' v (ordL k) ∧ Ext w w' := by
  go_enter Tryz.func113, Tryz.ntmps113
  go_upto_region 2 with fail
  have hS := Tab.one w
  have e0 : Ext w ((w.alloc (.cells #[] 3)).alloc (.cells #[.slice (some ⟨w.heap.size, 0, none⟩) 0 0] 27)) := inferInstance
  obtain ⟨B, hB⟩ : ∃ b, b = w.heap.size := ⟨_, rfl⟩
  have b0 : Below B w ((w.alloc (.cells #[] 3)).alloc (.cells #[.slice (some ⟨w.heap.size, 0, none⟩) 0 0] 27)) := by rw [hB]; exact e0.below
  rw [← hB] at hS b0 ⊢
  have hl0 : B ≤ w.heap.size := Nat.le_of_eq hB
  generalize (w.alloc (.cells #[] 3)).alloc (.cells #[.slice (some ⟨B, 0, none⟩) 0 0] 27) = w1 at *
  replace hB := hid hB
  clear e0
  have hS0 : Tab w1 B (.slice (some ⟨B + 1, 0, none⟩) 1 1) (ordTo k 0) [] := hS
  clear hS
  go_wp2
  go_loopw [3, 11] (fun v i wr => ∃ j : Nat, j ≤ k ∧ i = .int .i64 j ∧ (∃ R, Tab wr B v (ordTo k j) R) ∧ Below B w wr) (fun _ i _ => k - (intOf i).toNat)
  case atStart => exact ⟨0, by omega, rfl, ⟨_, hS0⟩, b0⟩
  case round =>
    obtain ⟨j, hj, rfl, ⟨R0, htab⟩, hb⟩ := hrel
    obtain ⟨d, m, rfl⟩ := htab.form
    obtain ⟨wo, rfl⟩ : ∃ y : World, y = wr := ⟨_, rfl⟩
    have hBo : B ≤ wo.heap.size := Nat.le_trans hl0 hb.size
    by_cases hlt : j < k
    · obtain ⟨R, fr, hown, hR⟩ := htab.sealed (ordTo_rows hk (by omega)).1 (ordTo_rows hk (by omega)).2.1 (ordTo_rows hk (by omega)).2.2
      have h27 := ordTo_27 (j := j) hk (by omega)
      have h81 := hid (fun a => ordN_81 (k := k) (j := j) (a := a) hk (by omega))
      have hns := hid (fun a h => ordN_succ (k := k) (j := j) (a := a) h)
      have hna := hid (ordN_all k j)
      have hLm := hid (show ∀ r ∈ ordTo k j, r.length = j from fun r hr => (ordTo_mem.1 hr).1)
      have hN0 := ordN_zero k j
      obtain ⟨L, hL⟩ : ∃ l, l = ordTo k j := ⟨_, rfl⟩
      obtain ⟨N, hN⟩ : ∃ f, f = ordN k j := ⟨_, rfl⟩
      rw [← hL] at hR h27 hns hna hLm ⊢
      rw [← hN] at h81 hns hna hN0
      replace hR := hid hR
      replace hL := hid hL
      replace hN := hid hN
      have tab0 : Tab (wo.alloc (.cells #[] 27)) B (.slice (some ⟨wo.heap.size, 0, none⟩) 0 0) (N 0) R := by rw [hN0]; exact Tab.start hown hBo
      have b1 : Below B w (wo.alloc (.cells #[] 27)) := hb.alloc hBo _
      replace hN0 := hid hN0
      clear htab hown
      go_upto_region 5 with fail
      generalize wo.alloc (.cells #[] 27) = w2 at *
      generalize wo.heap.size = g2 at *
      go_wp2
      go_loopw [4, 16] (fun v i wr => ∃ a : Nat, a ≤ L.length ∧ i = .int .i64 a ∧ Tab wr B v (N a) R ∧ Below B w wr) (fun _ i _ => L.length - (intOf i).toNat)
      case atStart => exact ⟨0, by omega, rfl, tab0, b1⟩
      case round =>
        obtain ⟨a, ha, rfl, htab, hb⟩ := hrel
        obtain ⟨d3, n3, m3, rfl, hn3⟩ := htab.formN
        obtain ⟨wq, rfl⟩ : ∃ y : World, y = wr := ⟨_, rfl⟩
        by_cases hlta : a < L.length
        · obtain ⟨b, o, n7, c7, dr, mr, hd2, hfa, hcr, hir⟩ := (hR.out wq htab.rest).2 a hlta
          rw [hfa] at hcr hir
          cases hd2
          have hrl := hid (hLm.out _ (row_mem hlta))
          have hnsa := hid (hns.out a hlta)
          have h81a := h81.out (a + 1)
          rw [hnsa.out, List.length_append] at h81a
          obtain ⟨r, hr⟩ : ∃ r, r = row L a := ⟨_, rfl⟩
          rw [← hr] at hcr hir hrl hnsa h81a
          have hok := hid (show ∀ z, Own z B R → IsInts z (.slice dr r.length mr) r from fun z hz => by
            obtain ⟨_, _, _, _, _, _, _, _, _, h⟩ := (hR.out z hz).2 a hlta
            rw [hfa, ← hr] at h
            exact h)
          replace hfa := hid hfa
          have hlr : r.length ≤ 17592186044415 := by have := hrl.out; omega
          replace hr := hid hr
          have hS3 : Tab wq B (.slice d3 n3 m3) (N a ++ nextO r 0) R := by rw [nextO_zero, List.append_nil]; exact htab
          clear htab
          go_wp2
          go_loopw [4, 21] (fun v i wr => ∃ q : Nat, q ≤ k ∧ i = .int .i64 q ∧ Tab wr B v (N a ++ nextO r q) R ∧ Below B w wr) (fun _ i _ => k - (intOf i).toNat)
          case atStart => exact ⟨0, by omega, rfl, hS3, hb⟩
          case round =>
            obtain ⟨q, hq, rfl, htab, hb⟩ := hrel
            obtain ⟨d4, n4, m4, rfl, hn4⟩ := htab.formN
            obtain ⟨wp, rfl⟩ : ∃ y : World, y = wr := ⟨_, rfl⟩
            have hBp : B ≤ wp.heap.size := Nat.le_trans hl0 hb.size
            by_cases hltq : q < k
            · have hirp := hok.out wp htab.rest
              by_cases hmem : (q : Int) ∈ r
              · have hh := hid (hasB_true.2 hmem)
                have hn := hid (nextO_succ_no hmem)
                replace hmem := hid hmem
                go_wp2_with fail
                with_reducible refine (sContains_any (w0 := wp) (w := wp) hirp).mono ?_
                rw [hh.out]
                rintro e w4 ⟨rfl, rfl⟩
                go_wp2_with fail
                go_roundw
                case rel => exact ⟨q + 1, by omega, by go_num, by rw [hn.out]; exact htab, hb⟩
                case measure => simp [intOf]; omega
              · have hh := hid (hasB_false.2 hmem)
                have hn := hid (nextO_succ_yes hmem)
                have hql := hid (nextO_len r q)
                replace hmem := hid hmem
                go_wp2_with fail
                with_reducible refine (sContains_any (w0 := wp) (w := wp) hirp).mono ?_
                rw [hh.out]
                rintro e w4 ⟨rfl, rfl⟩
                go_wp2_with fail
                with_reducible refine (cloneInts_any (w0 := wp) (w := wp) hirp).mono ?_
                rintro e w4 ⟨d5, m5, rfl, hown5, e5⟩
                have tab5 := htab.join hown5 e5 hBp
                have b5 : Below B w w4 := hb.trans (e5.below.mono hBp)
                have hB5 : B ≤ w4.heap.size := Nat.le_trans hl0 b5.size
                have hlN : (N a ++ nextO r q).length ≤ 1000 := by rw [List.length_append]; have := hql.out; have := h81.out a; omega
                obtain ⟨Tq, hTq⟩ : ∃ l, l = N a ++ nextO r q := ⟨_, rfl⟩
                rw [← hTq] at tab5 hlN
                have hfin := hid (show N a ++ nextO r (q + 1) = Tq ++ [r ++ [(q : Int)]] by rw [hn.out, hTq, List.append_assoc])
                replace hTq := hid hTq
                clear htab hown5
                go_wp2_with (first
                  | (at_builtin; refine wpList_grow rfl (.tmp 30) (.tmp 32) rfl rfl tab5 hB5 rfl (by have := hrl.out; omega) ?_; intro v6 w6 tab6 b6; obtain ⟨d6, n6, m6, hv6, hn6⟩ := tab6.rformN; subst hv6)
                  | (at_builtin; refine wpList_push rfl (.tmp 28) (.tmp 34) rfl rfl tab6 (Nat.le_trans hl0 (b5.trans b6).size) rfl (by omega) ?_; intro v7 w7 tab7 b7))
                go_roundw
                case rel => exact ⟨q + 1, by omega, by go_num, tab7.eq hfin.out.symm, (b5.trans b6).trans b7⟩
                case measure => simp [intOf]; omega
            · have hqk : q = k := by omega
              go_wp2_with fail
              go_roundw
              case rel => exact ⟨a + 1, by omega, by go_num, htab.eq (by rw [hnsa.out, hqk]), hb⟩
              case measure => simp [intOf]; omega
        · have hal : a = L.length := by omega
          go_wp2_with fail
          go_roundw
          case rel => exact ⟨j + 1, by omega, by go_num, ⟨R, htab.eq (by rw [hal]; exact hna.out)⟩, hb⟩
          case measure => simp [intOf]; omega
    · have hjk : j = k := by omega
      have hrd := htab.reads (ordTo_rows hk (by omega)).1 (ordTo_rows hk (by omega)).2.1 (ordTo_rows hk (by omega)).2.2
      have hfin := hid (show IsRows wo (.slice d (ordTo k j).length m) (ordL k) by rw [hjk] at hrd ⊢; exact hrd)
      replace hjk := hid hjk
      go_wp2_with fail
      go_ret
      exact ⟨_, rfl, hfin.out, ⟨by rw [← hB.out]; exact hb⟩⟩
end Go.Proofs.YtllfchcocgdcjaaGreat

/- The orders of the numbers below k: of the reference. -/
namespace Go.Proofs.YtllfchcocgdcjaaGreat
open Go.RowKit

end Go.Proofs.YtllfchcocgdcjaaGreat

/- The best matching of two configurations and its cost: the program's. -/
namespace Go.Proofs.YtllfchcocgdcjaaGreat
open Go.RowKit

theorem IsInts.pt {w w' : World} {a : Option Addr} {n c : Nat} {xs : List Int} (h : IsInts w (.slice a n c) xs) {q : Nat} (hp : Pts q xs) [e : Ext w w'] {k : Nat} (hk : k < xs.length) :
    ∃ b o, ∃ x : Nat, a = some ⟨b, o, none⟩ ∧ nth xs k = x ∧ x < q ∧ w'.cell? ⟨b, o + k, none⟩ = some (.int .i64 (x : Int)) := by
  obtain ⟨b, o, h1, h2⟩ := h.at (w' := w') hk
  have := hp _ (nth_mem hk)
  refine ⟨b, o, (nth xs k).toNat, h1, by omega, by omega, ?_⟩
  rw [h2, Int.toNat_of_nonneg this.1]

set_option maxHeartbeats 1600000 in
set_option maxRecDepth 100000 in
theorem matched_any {v va vb : Value} {M : List (List Int)} {a b : List Int} {w0 w : World} [Ext w0 w] (hm : IsMet w0 v M) (hM : metB M = true) (ha : IsInts w0 va a) (hb : IsInts w0 vb b)
    (hpa : Pts M.length a) (hpb : Pts M.length b) (hl : a.length = b.length) (h3 : a.length ≤ 3) :
    Calls Tryz.prog 97 #[v, va, vb] w fun e w' => ∃ u, e = .returned (.tuple #[u, .int .i64 (mvC M a b)]) ∧ IsInts w' u (matL M a b) ∧ Ext w w' := by
  obtain ⟨v1, rfl, hR⟩ := hm
  obtain ⟨a1, c1, rfl, l1⟩ := hR.form
  obtain ⟨da, ma, rfl, la⟩ := ha.form
  obtain ⟨db, mb, rfl, lb⟩ := hb.form
  have hsq := hid (met_sq hM)
  have hdst := hid (dst_of_met hM)
  replace hM := hid hM
  replace hpa := hid hpa
  replace hpb := hid hpb
  replace hl := hid hl
  have hin := hid (mvC_min hdst.out hpa.out hpb.out hl.out (by omega))
  go_enter Tryz.func97, Tryz.ntmps97
  go_wp2_with fail
  with_reducible refine (orders_any h3 _).mono ?_
  rintro e w1 ⟨vP, rfl, hP, e1⟩
  have x0 : w1.cell? ⟨w.heap.size, 0, none⟩ = some (.slice a1 M.length c1) := e1.cell (by go_simp)
  have e01 : Ext w w1 := Ext.trans inferInstance e1
  clear e1
  obtain ⟨dP, mP, rfl, lP⟩ := hP.form
  obtain ⟨F, hF⟩ : ∃ f : List Int → Int, f = ordC M a b := ⟨_, rfl⟩
  obtain ⟨P, hPd⟩ : ∃ p, p = ordL a.length := ⟨_, rfl⟩
  rw [← hPd] at hP lP ⊢
  have hPm := hid (show ∀ l ∈ P, l ∈ ordL a.length from fun l h => by rw [← hPd]; exact h)
  have hfin := hid (show bestTo F P 1073741824 P.length = (matL M a b, mvC M a b) by rw [hF, hPd]; rfl)
  replace hPd := hid hPd
  have hS : IsInts w1 (.slice none 0 0) (bestTo F P 1073741824 0).1 := IsInts.nil w1
  have hS2 := hid (show (bestTo F P 1073741824 0).2 = 1073741824 from rfl)
  obtain ⟨bx, hbx⟩ : ∃ q, q = w.heap.size := ⟨_, rfl⟩
  rw [← hbx] at x0 ⊢
  replace hbx := hid hbx
  replace hF := hid hF
  go_wp2_with fail
  go_loopw [8, 9, 19] (fun u q i wr => ∃ j : Nat, j ≤ P.length ∧ i = .int .i64 j ∧ q = .int .i64 (bestTo F P 1073741824 j).2 ∧ IsInts wr u (bestTo F P 1073741824 j).1 ∧ Ext w1 wr) (fun _ _ i _ => P.length - (intOf i).toNat)
  case atStart => exact ⟨0, by omega, rfl, rfl, hS, Ext.refl _⟩
  case round =>
    obtain ⟨j, hj, rfl, rfl, hu, hx⟩ := hrel
    obtain ⟨wo, rfl⟩ : ∃ y : World, y = wr := ⟨_, rfl⟩
    by_cases hlt : j < P.length
    · obtain ⟨b1, o1, dr, mr, hd, hcr, hir, hlr⟩ := hP.at (w' := wo) (k := j) hlt
      subst hd
      have hmem := hid (hPm.out _ (row_mem hlt))
      have hrl := hid (ordL_mem.1 hmem.out).1
      have hrp := hid (show Pts a.length (row P j) from (ordL_mem.1 hmem.out).2.2)
      have hbs : bestTo F P 1073741824 (j + 1) = if F (row P j) < (bestTo F P 1073741824 j).2 then (row P j, F (row P j)) else bestTo F P 1073741824 j := rfl
      replace hbs := hid hbs
      obtain ⟨r, hr⟩ : ∃ r, r = row P j := ⟨_, rfl⟩
      obtain ⟨best, hbest⟩ : ∃ q, q = (bestTo F P 1073741824 j).2 := ⟨_, rfl⟩
      rw [← hr] at hcr hir hlr hrl hrp hbs hmem
      rw [← hbest] at hbs ⊢
      have hFr := hid (show F r = cTo M a (pickL b r) r.length by
        rw [hF.out, ordC, costL_cTo M a _ (by rw [pick_len, hrl.out]), hrl.out])
      have hpk := hid (show Pts M.length (pickL b r) from hpb.out.perm (pick_perm (by rw [← hl.out]; exact hmem.out)))
      have hbb : -1 ≤ best ∧ best ≤ 1073741824 := by
        rw [hbest]
        rcases Nat.eq_zero_or_pos j with h | h
        · subst h; rw [hS2.out]; omega
        · have hb := bestTo_spec (f := F) (P := P) (F := 1073741824) (fun p hp => by
            have h5 := hPm.out p hp
            have h6 := pick_perm (b := b) (by rw [← hl.out]; exact h5)
            have h7 := (costL_in (D := 99) hdst.out.pos a (pickL b p) (by rw [h6.length_eq, hl.out]) hpa.out (hpb.out.perm h6))
            rw [hF.out]; unfold ordC; omega) h (by omega)
          rw [hb.2.1]
          have h5 := hPm.out _ hb.1
          obtain ⟨p, hp⟩ : ∃ p, p = (bestTo F P 1073741824 j).1 := ⟨_, rfl⟩
          rw [← hp] at h5 ⊢
          have h6 := pick_perm (b := b) (by rw [← hl.out]; exact h5)
          have h7 := (costL_in (D := 99) hdst.out.pos a (pickL b p) (by rw [h6.length_eq, hl.out]) hpa.out (hpb.out.perm h6))
          rw [hF.out]
          unfold ordC
          omega
      replace hbest := hid hbest
      replace hr := hid hr
      go_wp2_with fail
      go_loopw [12, 25] (fun s i wr => ∃ t : Nat, t ≤ r.length ∧ i = .int .i64 t ∧ s = .int .i64 (cTo M a (pickL b r) t) ∧ Ext wo wr) (fun _ i _ => r.length - (intOf i).toNat)
      case atStart => exact ⟨0, by omega, rfl, rfl, Ext.refl _⟩
      case round =>
        obtain ⟨t, ht, rfl, rfl, hy⟩ := hrel
        obtain ⟨wq, rfl⟩ : ∃ y : World, y = wr := ⟨_, rfl⟩
        by_cases hltt : t < r.length
        · have e1q : Ext w1 wq := Ext.trans hx hy
          have e0q : Ext w0 wq := Ext.trans ‹Ext w0 w› (Ext.trans e01 e1q)
          have x0q := e1q.cell x0
          have hta : t < a.length := by have := hrl.out; omega
          obtain ⟨br, orr, k, hd1, hk1, hk2, hk3⟩ := hir.pt hrp.out (w' := wq) hltt
          obtain ⟨ba, oa, x, hd2, hx1, hx2, hx3⟩ := ha.pt hpa.out (w' := wq) hta
          obtain ⟨bb, ob, y, hd3, hy1, hy2, hy3⟩ := hb.pt hpb.out (w' := wq) (k := k) (by have := hl.out; omega)
          cases hd1
          cases hd2
          cases hd3
          obtain ⟨b4, o4, d4, m4, hd4, hc4, hi4, _⟩ := hR.at (w' := wq) (k := x) hx2
          cases hd4
          have hrow := hid (square_row hsq.out hx2)
          obtain ⟨d5, o5, hd5, hc5⟩ := hi4.at (w' := wq) (k := y) (by rw [hrow.out]; exact hy2)
          cases hd5
          have hlb : k < b.length := by have := hl.out; omega
          have hlrow : y < (row M x).length := by rw [hrow.out]; exact hy2
          have hsum := hid (show cTo M a (pickL b r) (t + 1) = cTo M a (pickL b r) t + nth (row M x) y by
            rw [cTo, nth_pick hltt, hk1, hx1]
            show _ + cell M (Int.toNat (x : Int)) (nth b (Int.toNat (k : Int))).toNat = _
            rw [Int.toNat_natCast, Int.toNat_natCast, hy1, Int.toNat_natCast]; rfl)
          have hb1 := cTo_in hdst.out hpa.out hpk.out (i := t) (by omega) (by rw [pick_len]; omega)
          have hb2 := hdst.out.pos x y hx2 hy2
          have hb2' : 0 ≤ nth (row M x) y ∧ nth (row M x) y ≤ 99 := hb2
          clear hb2
          replace hk1 := hid hk1
          replace hx1 := hid hx1
          replace hy1 := hid hy1
          go_wp2_with (go_quiet (fail))
          go_roundw
          case rel => exact ⟨t + 1, by omega, by go_num, by rw [hsum.out], Ext.trans hy inferInstance⟩
          case measure => simp [intOf]; omega
        · have htr : t = r.length := by omega
          have e1q : Ext w1 wq := Ext.trans hx hy
          have hFt := hid (show cTo M a (pickL b r) t = F r by rw [hFr.out, htr])
          have hb1 := cTo_in hdst.out hpa.out hpk.out (i := t) (by have := hrl.out; omega) (by rw [pick_len]; omega)
          replace htr := hid htr
          rw [hFt.out] at hb1
          rw [hFt.out]
          by_cases hbt : F r < best
          · have hnew := hid (show bestTo F P 1073741824 (j + 1) = (r, F r) by rw [hbs.out, if_pos hbt])
            have hirq : IsInts wq (.slice dr r.length mr) r := by
              have : Ext w1 wq := e1q
              exact hir.ext
            go_wp2_with fail
            go_roundw
            case rel => exact ⟨j + 1, by omega, by go_num, by rw [hnew.out], by rw [hnew.out]; exact hirq, e1q⟩
            case measure => simp [intOf]; omega
          · have hnew := hid (show bestTo F P 1073741824 (j + 1) = bestTo F P 1073741824 j by rw [hbs.out, if_neg hbt])
            have huq := hu.ext (w' := wq)
            go_wp2_with fail
            go_roundw
            case rel => exact ⟨j + 1, by omega, by go_num, by rw [hnew.out, hbest.out], by rw [hnew.out]; exact huq, e1q⟩
            case measure => simp [intOf]; omega
    · have hjP : j = P.length := by omega
      have hf := hid (show bestTo F P 1073741824 j = (matL M a b, mvC M a b) by rw [hjP]; exact hfin.out)
      replace hjP := hid hjP
      rw [hf.out] at hu ⊢
      go_wp2_with fail
      go_ret2
      exact ⟨_, rfl, hu, Ext.trans e01 hx⟩
end Go.Proofs.YtllfchcocgdcjaaGreat

/- The best matching of two configurations and its cost: the reference's. -/
namespace Go.Proofs.YtllfchcocgdcjaaGreat
open Go.RowKit

theorem ints_none (u : World) (d : Option Addr) (c : Nat) : IsInts u (.slice d 0 c) [] := ⟨d, c, rfl, ⟨Nat.zero_le _, Nat.zero_le _⟩, by simp, fun j hj => by simp at hj⟩
def lstM (F : List Int → Int) (P : List (List Int)) (j : Nat) : Int := if j = 0 then -1 else (bestTo F P 1073741824 j).2
theorem lstM_or (F : List Int → Int) (P : List (List Int)) (j : Nat) : (j = 0 ∧ lstM F P j = -1) ∨ (0 < j ∧ lstM F P j = (bestTo F P 1073741824 j).2) := by
  unfold lstM
  by_cases h : j = 0
  · exact .inl ⟨h, if_pos h⟩
  · exact .inr ⟨by omega, if_neg h⟩
theorem lstM_succ (F : List Int → Int) (P : List (List Int)) (j : Nat) : lstM F P (j + 1) = (bestTo F P 1073741824 (j + 1)).2 := if_neg (by omega)

end Go.Proofs.YtllfchcocgdcjaaGreat

