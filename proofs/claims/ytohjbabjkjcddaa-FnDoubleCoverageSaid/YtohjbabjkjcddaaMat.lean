/- The best matching of two configurations and its cost: the program's. -/
import Derived.Test.YtohjbabjkjcddaaMatP
import Derived.Test.YtohjbabjkjcddaaOrd
namespace Go.Proofs.Ytohjbabjkjcddaa
open Go.RowKit

theorem IsInts.pt {w w' : World} {a : Option Addr} {n c : Nat} {xs : List Int} (h : IsInts w (.slice a n c) xs) {q : Nat} (hp : Pts q xs) [e : Ext w w'] {k : Nat} (hk : k < xs.length) :
    ∃ b o, ∃ x : Nat, a = some ⟨b, o, none⟩ ∧ nth xs k = x ∧ x < q ∧ w'.cell? ⟨b, o + k, none⟩ = some (.int .i64 (x : Int)) := by
  obtain ⟨b, o, h1, h2⟩ := h.at (w' := w') hk
  have := hp _ (nth_mem hk)
  refine ⟨b, o, (nth xs k).toNat, h1, by omega, by omega, ?_⟩
  rw [h2, Int.toNat_of_nonneg this.1]

set_option maxHeartbeats 1600000 in
set_option maxRecDepth 100000 in
theorem matched_any {v va vb : Value} {M : List (List Int)} {a b : List Int} {w0 w : World} [Ext w0 w] (hm : IsMet w0 v M) (hM : metB M = true) (ha : IsInts w0 va a) (hb : IsInts w0 vb b)
    (hpa : Pts M.length a) (hpb : Pts M.length b) (hl : a.length = b.length) (h3 : a.length ≤ 3) :
    Calls Try.prog 158 #[v, va, vb] w fun e w' => ∃ u, e = .returned (.tuple #[u, .int .i64 (mvC M a b)]) ∧ IsInts w' u (matL M a b) ∧ Ext w w' := by
  obtain ⟨v1, rfl, hR⟩ := hm
  obtain ⟨a1, c1, rfl, l1⟩ := hR.form
  obtain ⟨da, ma, rfl, la⟩ := ha.form
  obtain ⟨db, mb, rfl, lb⟩ := hb.form
  have hsq := hid (met_sq hM)
  have hdst := hid (dst_of_met hM)
  replace hM := hid hM
  replace hpa := hid hpa
  replace hpb := hid hpb
  replace hl := hid hl
  have hin := hid (mvC_min hdst.out hpa.out hpb.out hl.out (by omega))
  go_enter Try.func158, Try.ntmps158
  go_wp2_with fail
  with_reducible refine (orders_any h3 _).mono ?_
  rintro e w1 ⟨vP, rfl, hP, e1⟩
  have x0 : w1.cell? ⟨w.heap.size, 0, none⟩ = some (.slice a1 M.length c1) := e1.cell (by go_simp)
  have e01 : Ext w w1 := Ext.trans inferInstance e1
  clear e1
  obtain ⟨dP, mP, rfl, lP⟩ := hP.form
  obtain ⟨F, hF⟩ : ∃ f : List Int → Int, f = ordC M a b := ⟨_, rfl⟩
  obtain ⟨P, hPd⟩ : ∃ p, p = ordL a.length := ⟨_, rfl⟩
  rw [← hPd] at hP lP ⊢
  have hPm := hid (show ∀ l ∈ P, l ∈ ordL a.length from fun l h => by rw [← hPd]; exact h)
  have hfin := hid (show bestTo F P 1073741824 P.length = (matL M a b, mvC M a b) by rw [hF, hPd]; rfl)
  replace hPd := hid hPd
  have hS : IsInts w1 (.slice none 0 0) (bestTo F P 1073741824 0).1 := IsInts.nil w1
  have hS2 := hid (show (bestTo F P 1073741824 0).2 = 1073741824 from rfl)
  obtain ⟨bx, hbx⟩ : ∃ q, q = w.heap.size := ⟨_, rfl⟩
  rw [← hbx] at x0 ⊢
  replace hbx := hid hbx
  replace hF := hid hF
  go_wp2_with fail
  go_loopw [8, 9, 19] (fun u q i wr => ∃ j : Nat, j ≤ P.length ∧ i = .int .i64 j ∧ q = .int .i64 (bestTo F P 1073741824 j).2 ∧ IsInts wr u (bestTo F P 1073741824 j).1 ∧ Ext w1 wr) (fun _ _ i _ => P.length - (intOf i).toNat)
  case atStart => exact ⟨0, by omega, rfl, rfl, hS, Ext.refl _⟩
  case round =>
    obtain ⟨j, hj, rfl, rfl, hu, hx⟩ := hrel
    obtain ⟨wo, rfl⟩ : ∃ y : World, y = wr := ⟨_, rfl⟩
    by_cases hlt : j < P.length
    · obtain ⟨b1, o1, dr, mr, hd, hcr, hir, hlr⟩ := hP.at (w' := wo) (k := j) hlt
      subst hd
      have hmem := hid (hPm.out _ (row_mem hlt))
      have hrl := hid (ordL_mem.1 hmem.out).1
      have hrp := hid (show Pts a.length (row P j) from (ordL_mem.1 hmem.out).2.2)
      have hbs : bestTo F P 1073741824 (j + 1) = if F (row P j) < (bestTo F P 1073741824 j).2 then (row P j, F (row P j)) else bestTo F P 1073741824 j := rfl
      replace hbs := hid hbs
      obtain ⟨r, hr⟩ : ∃ r, r = row P j := ⟨_, rfl⟩
      obtain ⟨best, hbest⟩ : ∃ q, q = (bestTo F P 1073741824 j).2 := ⟨_, rfl⟩
      rw [← hr] at hcr hir hlr hrl hrp hbs hmem
      rw [← hbest] at hbs ⊢
      have hFr := hid (show F r = cTo M a (pickL b r) r.length by
        rw [hF.out, ordC, costL_cTo M a _ (by rw [pick_len, hrl.out]), hrl.out])
      have hpk := hid (show Pts M.length (pickL b r) from hpb.out.perm (pick_perm (by rw [← hl.out]; exact hmem.out)))
      have hbb : -1 ≤ best ∧ best ≤ 1073741824 := by
        rw [hbest]
        rcases Nat.eq_zero_or_pos j with h | h
        · subst h; rw [hS2.out]; omega
        · have hb := bestTo_spec (f := F) (P := P) (F := 1073741824) (fun p hp => by
            have h5 := hPm.out p hp
            have h6 := pick_perm (b := b) (by rw [← hl.out]; exact h5)
            have h7 := (costL_in (D := 99) hdst.out.pos a (pickL b p) (by rw [h6.length_eq, hl.out]) hpa.out (hpb.out.perm h6))
            rw [hF.out]; unfold ordC; omega) h (by omega)
          rw [hb.2.1]
          have h5 := hPm.out _ hb.1
          obtain ⟨p, hp⟩ : ∃ p, p = (bestTo F P 1073741824 j).1 := ⟨_, rfl⟩
          rw [← hp] at h5 ⊢
          have h6 := pick_perm (b := b) (by rw [← hl.out]; exact h5)
          have h7 := (costL_in (D := 99) hdst.out.pos a (pickL b p) (by rw [h6.length_eq, hl.out]) hpa.out (hpb.out.perm h6))
          rw [hF.out]
          unfold ordC
          omega
      replace hbest := hid hbest
      replace hr := hid hr
      go_wp2_with fail
      go_loopw [12, 25] (fun s i wr => ∃ t : Nat, t ≤ r.length ∧ i = .int .i64 t ∧ s = .int .i64 (cTo M a (pickL b r) t) ∧ Ext wo wr) (fun _ i _ => r.length - (intOf i).toNat)
      case atStart => exact ⟨0, by omega, rfl, rfl, Ext.refl _⟩
      case round =>
        obtain ⟨t, ht, rfl, rfl, hy⟩ := hrel
        obtain ⟨wq, rfl⟩ : ∃ y : World, y = wr := ⟨_, rfl⟩
        by_cases hltt : t < r.length
        · have e1q : Ext w1 wq := Ext.trans hx hy
          have e0q : Ext w0 wq := Ext.trans ‹Ext w0 w› (Ext.trans e01 e1q)
          have x0q := e1q.cell x0
          have hta : t < a.length := by have := hrl.out; omega
          obtain ⟨br, orr, k, hd1, hk1, hk2, hk3⟩ := hir.pt hrp.out (w' := wq) hltt
          obtain ⟨ba, oa, x, hd2, hx1, hx2, hx3⟩ := ha.pt hpa.out (w' := wq) hta
          obtain ⟨bb, ob, y, hd3, hy1, hy2, hy3⟩ := hb.pt hpb.out (w' := wq) (k := k) (by have := hl.out; omega)
          cases hd1
          cases hd2
          cases hd3
          obtain ⟨b4, o4, d4, m4, hd4, hc4, hi4, _⟩ := hR.at (w' := wq) (k := x) hx2
          cases hd4
          have hrow := hid (square_row hsq.out hx2)
          obtain ⟨d5, o5, hd5, hc5⟩ := hi4.at (w' := wq) (k := y) (by rw [hrow.out]; exact hy2)
          cases hd5
          have hlb : k < b.length := by have := hl.out; omega
          have hlrow : y < (row M x).length := by rw [hrow.out]; exact hy2
          have hsum := hid (show cTo M a (pickL b r) (t + 1) = cTo M a (pickL b r) t + nth (row M x) y by
            rw [cTo, nth_pick hltt, hk1, hx1]
            show _ + cell M (Int.toNat (x : Int)) (nth b (Int.toNat (k : Int))).toNat = _
            rw [Int.toNat_natCast, Int.toNat_natCast, hy1, Int.toNat_natCast]; rfl)
          have hb1 := cTo_in hdst.out hpa.out hpk.out (i := t) (by omega) (by rw [pick_len]; omega)
          have hb2 := hdst.out.pos x y hx2 hy2
          have hb2' : 0 ≤ nth (row M x) y ∧ nth (row M x) y ≤ 99 := hb2
          clear hb2
          replace hk1 := hid hk1
          replace hx1 := hid hx1
          replace hy1 := hid hy1
          go_wp2_with (go_quiet (fail))
          go_roundw
          case rel => exact ⟨t + 1, by omega, by go_num, by rw [hsum.out], Ext.trans hy inferInstance⟩
          case measure => simp [intOf]; omega
        · have htr : t = r.length := by omega
          have e1q : Ext w1 wq := Ext.trans hx hy
          have hFt := hid (show cTo M a (pickL b r) t = F r by rw [hFr.out, htr])
          have hb1 := cTo_in hdst.out hpa.out hpk.out (i := t) (by have := hrl.out; omega) (by rw [pick_len]; omega)
          replace htr := hid htr
          rw [hFt.out] at hb1
          rw [hFt.out]
          by_cases hbt : F r < best
          · have hnew := hid (show bestTo F P 1073741824 (j + 1) = (r, F r) by rw [hbs.out, if_pos hbt])
            have hirq : IsInts wq (.slice dr r.length mr) r := by
              have : Ext w1 wq := e1q
              exact hir.ext
            go_wp2_with fail
            go_roundw
            case rel => exact ⟨j + 1, by omega, by go_num, by rw [hnew.out], by rw [hnew.out]; exact hirq, e1q⟩
            case measure => simp [intOf]; omega
          · have hnew := hid (show bestTo F P 1073741824 (j + 1) = bestTo F P 1073741824 j by rw [hbs.out, if_neg hbt])
            have huq := hu.ext (w' := wq)
            go_wp2_with fail
            go_roundw
            case rel => exact ⟨j + 1, by omega, by go_num, by rw [hnew.out, hbest.out], by rw [hnew.out]; exact huq, e1q⟩
            case measure => simp [intOf]; omega
    · have hjP : j = P.length := by omega
      have hf := hid (show bestTo F P 1073741824 j = (matL M a b, mvC M a b) by rw [hjP]; exact hfin.out)
      replace hjP := hid hjP
      rw [hf.out] at hu ⊢
      go_wp2_with fail
      go_ret2
      exact ⟨_, rfl, hu, Ext.trans e01 hx⟩
end Go.Proofs.Ytohjbabjkjcddaa
