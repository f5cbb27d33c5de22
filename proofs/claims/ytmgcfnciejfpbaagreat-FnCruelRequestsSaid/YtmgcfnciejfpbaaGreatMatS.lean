/- The best matching of two configurations and its cost: the reference's. -/
import Derived.Test.YtmgcfnciejfpbaaGreatMat
import Derived.Test.YtmgcfnciejfpbaaGreatOrdS
namespace Go.Proofs.YtmgcfnciejfpbaaGreat
open Go.RowKit

theorem ints_none (u : World) (d : Option Addr) (c : Nat) : IsInts u (.slice d 0 c) [] := ⟨d, c, rfl, ⟨Nat.zero_le _, Nat.zero_le _⟩, by simp, fun j hj => by simp at hj⟩
def lstM (F : List Int → Int) (P : List (List Int)) (j : Nat) : Int := if j = 0 then -1 else (bestTo F P 1073741824 j).2
theorem lstM_or (F : List Int → Int) (P : List (List Int)) (j : Nat) : (j = 0 ∧ lstM F P j = -1) ∨ (0 < j ∧ lstM F P j = (bestTo F P 1073741824 j).2) := by
  unfold lstM
  by_cases h : j = 0
  · exact .inl ⟨h, if_pos h⟩
  · exact .inr ⟨by omega, if_neg h⟩
theorem lstM_succ (F : List Int → Int) (P : List (List Int)) (j : Nat) : lstM F P (j + 1) = (bestTo F P 1073741824 (j + 1)).2 := if_neg (by omega)

set_option maxHeartbeats 1600000 in
set_option maxRecDepth 100000 in
theorem l6Match_any {v va vb : Value} {M : List (List Int)} {a b : List Int} {w0 w : World} [Ext w0 w] (hm : IsMet w0 v M) (hM : metB M = true) (ha : IsInts w0 va a) (hb : IsInts w0 vb b)
    (hpa : Pts M.length a) (hpb : Pts M.length b) (hl : a.length = b.length) (h3 : a.length ≤ 3) :
    Calls Tryz.prog 150 #[v, va, vb] w fun e w' => ∃ u, e = .returned (.tuple #[u, .int .i64 (mvC M a b)]) ∧ IsInts w' u (matL M a b) ∧ Ext w w' := by
  obtain ⟨v1, rfl, hR⟩ := hm
  obtain ⟨a1, c1, rfl, l1⟩ := hR.form
  obtain ⟨da, ma, rfl, la⟩ := ha.form
  obtain ⟨db, mb, rfl, lb⟩ := hb.form
  have hsq := hid (met_sq hM)
  have hdst := hid (dst_of_met hM)
  replace hM := hid hM
  replace hpa := hid hpa
  replace hpb := hid hpb
  replace hl := hid hl
  have hin := hid (mvC_min hdst.out hpa.out hpb.out hl.out (by omega))
  go_enter Tryz.func150, Tryz.ntmps150
  go_wp2_with fail
  with_reducible refine (l6Perms_any h3 _).mono ?_
  rintro e w1 ⟨vP, rfl, hP, e1⟩
  have x0 : w1.cell? ⟨w.heap.size, 0, none⟩ = some (.slice a1 M.length c1) := e1.cell (by go_simp)
  have e01 : Ext w w1 := Ext.trans inferInstance e1
  clear e1
  obtain ⟨dP, mP, rfl, lP⟩ := hP.form
  obtain ⟨F, hF⟩ : ∃ f : List Int → Int, f = ordC M a b := ⟨_, rfl⟩
  obtain ⟨P, hPd⟩ : ∃ p, p = ordL a.length := ⟨_, rfl⟩
  rw [← hPd] at hP lP ⊢
  have hPm := hid (show ∀ l ∈ P, l ∈ ordL a.length from fun l h => by rw [← hPd]; exact h)
  have hfin := hid (show bestTo F P 1073741824 P.length = (matL M a b, mvC M a b) by rw [hF, hPd]; rfl)
  have hPpos := hid (show 0 < P.length by rw [hPd]; exact List.length_pos_of_mem (ordL_ne a.length))
  replace hPd := hid hPd
  have hS2 := hid (show (bestTo F P 1073741824 0).2 = 1073741824 from rfl)
  obtain ⟨bx, hbx⟩ : ∃ q, q = w.heap.size := ⟨_, rfl⟩
  rw [← hbx] at x0 ⊢
  replace hbx := hid hbx
  replace hF := hid hF
  go_upto_region 2 with fail
  have e12 : Ext w1 (w1.alloc (.cells #[] 3)) := inferInstance
  have hP' := hP.ext (w' := w1.alloc (.cells #[] 3))
  have x0' := e12.cell x0
  have e02 : Ext w (w1.alloc (.cells #[] 3)) := Ext.trans e01 e12
  have hS : IsInts (w1.alloc (.cells #[] 3)) (.slice (some ⟨w1.heap.size, 0, none⟩) 0 0) (bestTo F P 1073741824 0).1 := ints_none _ _ _
  generalize w1.heap.size = g1 at *
  generalize w1.alloc (.cells #[] 3) = w2 at *
  clear hP x0 e01 e12
  have hP := hP'
  have x0 := x0'
  have e01 := e02
  clear hP' x0' e02
  go_wp2_with fail
  go_loopw [9, 10, 11] (fun u q i wr => ∃ j : Nat, j ≤ P.length ∧ i = .int .i64 j ∧ q = .int .i64 (lstM F P j) ∧ IsInts wr u (bestTo F P 1073741824 j).1 ∧ Ext w2 wr) (fun _ _ i _ => P.length - (intOf i).toNat)
  case atStart => exact ⟨0, by omega, rfl, rfl, hS, Ext.refl _⟩
  case round =>
    obtain ⟨j, hj, rfl, rfl, hu, hx⟩ := hrel
    obtain ⟨wo, rfl⟩ : ∃ y : World, y = wr := ⟨_, rfl⟩
    by_cases hlt : j < P.length
    · obtain ⟨b1, o1, dr, mr, hd, hcr, hir, hlr⟩ := hP.at (w' := wo) (k := j) hlt
      subst hd
      have hmem := hid (hPm.out _ (row_mem hlt))
      have hrl := hid (ordL_mem.1 hmem.out).1
      have hrp := hid (show Pts a.length (row P j) from (ordL_mem.1 hmem.out).2.2)
      have hbs : bestTo F P 1073741824 (j + 1) = if F (row P j) < (bestTo F P 1073741824 j).2 then (row P j, F (row P j)) else bestTo F P 1073741824 j := rfl
      replace hbs := hid hbs
      obtain ⟨r, hr⟩ : ∃ r, r = row P j := ⟨_, rfl⟩
      obtain ⟨best, hbest⟩ : ∃ q, q = (bestTo F P 1073741824 j).2 := ⟨_, rfl⟩
      rw [← hr] at hcr hir hlr hrl hrp hbs hmem
      rw [← hbest] at hbs
      obtain ⟨ls, hls⟩ : ∃ q, q = lstM F P j := ⟨_, rfl⟩
      rw [← hls]
      replace hls := hid hls
      have hFr := hid (show F r = cTo M a (pickL b r) r.length by
        rw [hF.out, ordC, costL_cTo M a _ (by rw [pick_len, hrl.out]), hrl.out])
      have hpk := hid (show Pts M.length (pickL b r) from hpb.out.perm (pick_perm (by rw [← hl.out]; exact hmem.out)))
      have hbpos := hid (show 0 < j → 0 ≤ best from fun h => by
        rw [hbest]
        have hb := bestTo_spec (f := F) (P := P) (F := 1073741824) (fun p hp => by
            have h5 := hPm.out p hp
            have h6 := pick_perm (b := b) (by rw [← hl.out]; exact h5)
            have h7 := (costL_in (D := 99) hdst.out.pos a (pickL b p) (by rw [h6.length_eq, hl.out]) hpa.out (hpb.out.perm h6))
            rw [hF.out]; unfold ordC; omega) h (by omega)
        rw [hb.2.1]
        have h5 := hPm.out _ hb.1
        obtain ⟨p, hp⟩ : ∃ p, p = (bestTo F P 1073741824 j).1 := ⟨_, rfl⟩
        rw [← hp] at h5 ⊢
        have h6 := pick_perm (b := b) (by rw [← hl.out]; exact h5)
        have h7 := (costL_in (D := 99) hdst.out.pos a (pickL b p) (by rw [h6.length_eq, hl.out]) hpa.out (hpb.out.perm h6))
        rw [hF.out]
        unfold ordC
        omega)
      have hbb : -1 ≤ best ∧ best ≤ 1073741824 := by
        rw [hbest]
        rcases Nat.eq_zero_or_pos j with h | h
        · subst h; rw [hS2.out]; omega
        · have hb := bestTo_spec (f := F) (P := P) (F := 1073741824) (fun p hp => by
            have h5 := hPm.out p hp
            have h6 := pick_perm (b := b) (by rw [← hl.out]; exact h5)
            have h7 := (costL_in (D := 99) hdst.out.pos a (pickL b p) (by rw [h6.length_eq, hl.out]) hpa.out (hpb.out.perm h6))
            rw [hF.out]; unfold ordC; omega) h (by omega)
          rw [hb.2.1]
          have h5 := hPm.out _ hb.1
          obtain ⟨p, hp⟩ : ∃ p, p = (bestTo F P 1073741824 j).1 := ⟨_, rfl⟩
          rw [← hp] at h5 ⊢
          have h6 := pick_perm (b := b) (by rw [← hl.out]; exact h5)
          have h7 := (costL_in (D := 99) hdst.out.pos a (pickL b p) (by rw [h6.length_eq, hl.out]) hpa.out (hpb.out.perm h6))
          rw [hF.out]
          unfold ordC
          omega
      replace hbest := hid hbest
      replace hr := hid hr
      go_wp2_with fail
      go_loopw [12, 13] (fun s i wr => ∃ t : Nat, t ≤ a.length ∧ i = .int .i64 t ∧ s = .int .i64 (cTo M a (pickL b r) t) ∧ Ext wo wr) (fun _ i _ => a.length - (intOf i).toNat)
      case atStart => exact ⟨0, by omega, rfl, rfl, Ext.refl _⟩
      case round =>
        obtain ⟨t, ht, rfl, rfl, hy⟩ := hrel
        obtain ⟨wq, rfl⟩ : ∃ y : World, y = wr := ⟨_, rfl⟩
        have hrla := hrl.out
        by_cases hlta : t < a.length
        · have e1q : Ext w2 wq := Ext.trans hx hy
          have e0q : Ext w0 wq := Ext.trans ‹Ext w0 w› (Ext.trans e01 e1q)
          have x0q := e1q.cell x0
          have hltt : t < r.length := by omega
          have hcro := (Ext.trans hy (Ext.refl _)).cell hcr
          obtain ⟨br, orr, k, hd1, hk1, hk2, hk3⟩ := hir.pt hrp.out (w' := wq) hltt
          obtain ⟨ba, oa, x, hd2, hx1, hx2, hx3⟩ := ha.pt hpa.out (w' := wq) hlta
          obtain ⟨bb, ob, y, hd3, hy1, hy2, hy3⟩ := hb.pt hpb.out (w' := wq) (k := k) (by have := hl.out; omega)
          cases hd1
          cases hd2
          cases hd3
          obtain ⟨b4, o4, d4, m4, hd4, hc4, hi4, _⟩ := hR.at (w' := wq) (k := x) hx2
          cases hd4
          have hrow := hid (square_row hsq.out hx2)
          obtain ⟨d5, o5, hd5, hc5⟩ := hi4.at (w' := wq) (k := y) (by rw [hrow.out]; exact hy2)
          cases hd5
          have hlb : k < b.length := by have := hl.out; omega
          have hlrow : y < (row M x).length := by rw [hrow.out]; exact hy2
          have hsum := hid (show cTo M a (pickL b r) (t + 1) = cTo M a (pickL b r) t + nth (row M x) y by
            rw [cTo, nth_pick hltt, hk1, hx1]
            show _ + cell M (Int.toNat (x : Int)) (nth b (Int.toNat (k : Int))).toNat = _
            rw [Int.toNat_natCast, Int.toNat_natCast, hy1, Int.toNat_natCast]; rfl)
          have hb1 := cTo_in hdst.out hpa.out hpk.out (i := t) (by omega) (by rw [pick_len]; omega)
          replace hrla := hid hrla
          have hb2 := hdst.out.pos x y hx2 hy2
          have hb2' : 0 ≤ nth (row M x) y ∧ nth (row M x) y ≤ 99 := hb2
          clear hb2
          replace hk1 := hid hk1
          replace hx1 := hid hx1
          replace hy1 := hid hy1
          go_wp2_with (go_quiet (fail))
          go_roundw
          case rel => exact ⟨t + 1, by omega, by go_num, by rw [hsum.out], Ext.trans hy inferInstance⟩
          case measure => simp [intOf]; omega
        · have htr : t = r.length := by omega
          replace hrla := hid hrla
          have hcro := hy.cell hcr
          have e1q : Ext w2 wq := Ext.trans hx hy
          have hFt := hid (show cTo M a (pickL b r) t = F r by rw [hFr.out, htr])
          have hb1 := cTo_in hdst.out hpa.out hpk.out (i := t) (by have := hrl.out; omega) (by rw [pick_len]; omega)
          replace htr := hid htr
          rw [hFt.out] at hb1
          rw [hFt.out]
          have hls0 : (j = 0 ∧ ls = -1) ∨ (0 < j ∧ ls = best) := by
            rw [hls.out, hbest.out]; exact lstM_or F P j
          have hnx := hid (lstM_succ F P j)
          have hirq : IsInts wq (.slice dr r.length mr) r := by
            have : Ext w2 wq := e1q
            exact hir.ext
          have huq := hu.ext (w' := wq)
          have hstep := hid (show F r < best → bestTo F P 1073741824 (j + 1) = (r, F r) from fun h => by rw [hbs.out, if_pos h])
          have hkeep := hid (show ¬ F r < best → bestTo F P 1073741824 (j + 1) = bestTo F P 1073741824 j from fun h => by rw [hbs.out, if_neg h])
          have hbz := hid (show j = 0 → best = 1073741824 from fun h => by rw [hbest.out, h]; rfl)
          rcases hls0 with ⟨hj0, hl0⟩ | ⟨hj0, hl0⟩
          · have hnew := hid (hstep.out (by rw [hbz.out hj0]; have := hb1.2; omega))
            replace hj0 := hid hj0
            subst hl0
            go_wp2_with fail
            go_roundw
            case rel => exact ⟨j + 1, by omega, by go_num, by rw [hnx.out, hnew.out], by rw [hnew.out]; exact hirq, e1q⟩
            case measure => simp [intOf]; omega
          · have hb0 : 0 ≤ best := hbpos.out hj0
            subst hl0
            by_cases hbt : F r < ls
            · have hnew := hid (hstep.out hbt)
              go_wp2_with fail
              go_roundw
              case rel => exact ⟨j + 1, by omega, by go_num, by rw [hnx.out, hnew.out], by rw [hnew.out]; exact hirq, e1q⟩
              case measure => simp [intOf]; omega
            · have hnew := hid (hkeep.out hbt)
              go_wp2_with fail
              go_roundw
              case rel => exact ⟨j + 1, by omega, by go_num, by rw [hnx.out, hnew.out, hbest.out], by rw [hnew.out]; exact huq, e1q⟩
              case measure => simp [intOf]; omega
    · have hjP : j = P.length := by omega
      have hf := hid (show bestTo F P 1073741824 j = (matL M a b, mvC M a b) by rw [hjP]; exact hfin.out)
      replace hjP := hid hjP
      have hlf := hid (show lstM F P j = mvC M a b by
        have h0 : 0 < j := by rw [hjP.out]; exact hPpos.out
        rw [lstM, if_neg (by omega), hf.out])
      rw [hf.out] at hu
      rw [hlf.out]
      go_wp2_with fail
      go_ret2
      exact ⟨_, rfl, hu, Ext.trans e01 hx⟩
end Go.Proofs.YtmgcfnciejfpbaaGreat
