/- The greedy schedules of servers, both sides. -/
import Derived.Test.YtkibmjenjgijmaaGreatGrN
namespace Go.Proofs.YtkibmjenjgijmaaGreat
open Go.RowKit

def gsT (M : List (List Int)) (a X : List Int) : List (List Int) := if srvB M a X then grT M a X X.length else []
def gsS (M : List (List Int)) (a X : List Int) : Int := if srvB M a X then grS M a X X.length else 0
theorem gs_no {M : List (List Int)} {a X : List Int} (h : srvB M a X = false) : gsT M a X = [] ∧ gsS M a X = 0 := by simp [gsT, gsS, h]
theorem gs_yes {M : List (List Int)} {a X : List Int} (h : srvB M a X = true) : gsT M a X = grT M a X X.length ∧ gsS M a X = grS M a X X.length := by simp [gsT, gsS, h]
theorem gs_i64 {M : List (List Int)} {a X : List Int} (h : srvB M a X = true) : ∀ i, i ≤ X.length → (grA M a X i).length = a.length ∧ Pts M.length (grA M a X i) ∧ ∀ x ∈ grA M a X i, I64 x := by
  intro i hi
  obtain ⟨h1, h2⟩ := conf_pts (gr_conf h i hi)
  have hn := (met_len (srvB_iff.1 h).1).2
  exact ⟨h1, h2, fun x hx => by have := h2 x hx; unfold I64; omega⟩
theorem gsT_ok {M : List (List Int)} {a X : List Int} (h : srvB M a X = true) : ShortRows (grT M a X X.length).length ∧ (∀ r ∈ grT M a X X.length, Short r.length) ∧ ∀ r ∈ grT M a X X.length, ∀ x ∈ r, I64 x := by
  obtain ⟨hd, hk, ha, hX, hl⟩ := srv_all h
  refine ⟨by unfold ShortRows; rw [grT_len]; omega, fun r hr => ?_, fun r hr => ?_⟩
  · obtain ⟨j, hj, rfl⟩ := List.mem_map.1 hr
    have := List.mem_range.1 hj
    have := (gs_i64 h (j + 1) (by omega)).1
    unfold Short
    omega
  · obtain ⟨j, hj, rfl⟩ := List.mem_map.1 hr
    have := List.mem_range.1 hj
    exact (gs_i64 h (j + 1) (by omega)).2.2
theorem near_one {M : List (List Int)} {a : List Int} {r : Int} {j : Nat} (h : 1 ≤ a.length) (hj : j ≤ a.length) : nearTo M a r j < a.length := by
  rcases (near_spec (M := M) (a := a) (r := r) j hj).1 with h1 | h1 <;> omega
theorem near_first {M : List (List Int)} {a : List Int} {r : Int} : nearTo M a r 1 = 0 := by
  rw [nearTo, nearTo]
  split <;> rfl
theorem near_lt' {M : List (List Int)} {a : List Int} {r : Int} {j : Nat} (h : cell M (nth a j).toNat r.toNat < cell M (nth a (nearTo M a r j)).toNat r.toNat) : nearTo M a r (j + 1) = j := by rw [nearTo, if_pos h]
theorem near_ge' {M : List (List Int)} {a : List Int} {r : Int} {j : Nat} (h : ¬ cell M (nth a j).toNat r.toNat < cell M (nth a (nearTo M a r j)).toNat r.toNat) : nearTo M a r (j + 1) = nearTo M a r j := by rw [nearTo, if_neg h]

set_option maxHeartbeats 3200000 in
set_option maxRecDepth 100000 in
theorem implGs_any {v va vX : Value} {M : List (List Int)} {a X : List Int} {w0 w : World} [Ext w0 w] (hm : IsMet w0 v M) (ha : IsInts w0 va a) (hXi : IsInts w0 vX X) :
    Calls Tryz.prog 12 #[v, va, vX] w fun e w' => ∃ u, e = .returned (.tuple #[u, .int .i64 (gsS M a X), .bool (srvB M a X)]) ∧ IsRows w' u (gsT M a X) ∧ Ext w w' := by
  have hm' := hm
  have ha' := ha
  have hX' := hXi
  obtain ⟨v1, rfl, hR⟩ := hm
  obtain ⟨a1, c1, rfl, l1⟩ := hR.form
  obtain ⟨da, ma, rfl, la⟩ := ha.form
  obtain ⟨aX, mX, rfl, lX⟩ := hXi.form
  have x0 : (w.alloc (.cells #[.slice a1 M.length c1] 26)).cell? ⟨w.heap.size, 0, none⟩ = some (.slice a1 M.length c1) := by go_simp
  cases hS : srvB M a X with
  | false =>
    have hr := hid (gs_no hS)
    replace hS := hid hS
    go_enter Tryz.func12, Tryz.ntmps12
    go_wp2_with fail
    with_reducible refine (isServed_any (w0 := w0) hm' ha' hX').mono ?_
    rw [hS.out]
    rintro e w1 ⟨rfl, e1⟩
    go_wp2_with fail
    go_ret3
    rw [hr.out.1, hr.out.2]
    exact ⟨_, rfl, rows_none _ _ _, Ext.trans inferInstance e1⟩
  | true =>
    have hr := hid (gs_yes hS)
    have hall := hid (gs_i64 hS)
    have hTok := hid (gsT_ok hS)
    have hin := hid (gr_in hS)
    obtain ⟨hM, hk, hac, hl60, hX⟩ := srv_parts hS
    have hn6 := met_len hM
    have hsq := hid (met_sq hM)
    have hdst := hid (dst_of_met hM)
    have hXp := hid (show Pts M.length X from fun x hx => by
      obtain ⟨j, hj, rfl⟩ := mem_iff_nth.1 hx
      exact hX j hj)
    clear hM hac hX
    replace hS := hid hS
    go_enter Tryz.func12, Tryz.ntmps12
    go_wp2_with fail
    with_reducible refine (isServed_any (w0 := w0) hm' ha' hX').mono ?_
    rw [hS.out]
    rintro e w1 ⟨rfl, e1⟩
    have x1 := e1.cell x0
    have e1w : Ext w w1 := Ext.trans inferInstance e1
    have e01 : Ext w0 w1 := Ext.trans ‹Ext w0 w› e1w
    clear x0 e1
    obtain ⟨bx, hbx⟩ : ∃ b, b = w.heap.size := ⟨_, rfl⟩
    rw [← hbx] at x1
    obtain ⟨B, hB⟩ : ∃ b, b = w1.heap.size := ⟨_, rfl⟩
    have hEx := hid (show ∀ u, Below B w1 u → Ext w1 u from fun u h => ⟨by rw [← hB]; exact h⟩)
    have hBl := hid (show ∀ u, Ext w1 u → B ≤ u.heap.size from fun u e => by rw [hB]; exact e.size)
    have tab0 : Tab (w1.alloc (.cells #[] 27)) B (.slice (some ⟨w1.heap.size, 0, none⟩) 0 0) [] [] := Tab.start (Own.nil _ _) (by rw [hB]; exact Nat.le_refl _)
    have b0 : Below B w1 (w1.alloc (.cells #[] 27)) := by rw [hB]; exact (Below.refl _ _).alloc (Nat.le_refl _) _
    go_upto_region 5 with fail
    rw [← hbx]
    replace hbx := hid hbx
    replace hB := hid hB
    generalize w1.alloc (.cells #[] 27) = w2 at *
    generalize w1.heap.size = gl at *
    have e02 : Ext w0 w2 := Ext.trans e01 (hEx.out _ b0)
    have hB2 : B ≤ w2.heap.size := hBl.out _ (hEx.out _ b0)
    go_wp2_with fail
    with_reducible refine (cloneInts_any (w0 := w0) (w := w2) ha').mono ?_
    rintro e w3 ⟨d3, m3, rfl, own3, e3⟩
    have tab3 := tab0.side own3 e3 hB2
    have b3 : Below B w1 w3 := b0.trans (e3.below.mono hB2)
    have hg0 := hid (show grA M a X 0 = a from rfl)
    clear tab0 b0 own3 e3 e02 hB2
    go_wp2_with fail
    go_loopw [9, 10, 11, 27] (fun ov sv av i wr => ∃ q : Nat, q ≤ X.length ∧ i = .int .i64 q ∧ sv = .int .i64 (grS M a X q) ∧ Tab wr B ov (grT M a X q) [intRowOf 3 av (grA M a X q)] ∧ Below B w1 wr) (fun _ _ _ i _ => X.length - (intOf i).toNat)
    case atStart => exact ⟨0, by omega, rfl, rfl, tab3, b3⟩
    case round =>
      clear tab3 b3
      obtain ⟨q, hq, rfl, rfl, tab, hb⟩ := hrel
      obtain ⟨wq, rfl⟩ : ∃ y : World, y = wr := ⟨_, rfl⟩
      have eq : Ext w1 wq := hEx.out _ hb
      have e0q : Ext w0 wq := Ext.trans e01 eq
      have hBq := hBl.out _ eq
      obtain ⟨hA1, hA2, hA3⟩ := hall.out q hq
      by_cases hlt : q < X.length
      · obtain ⟨dO, nO, mO, rfl, hnO⟩ := tab.formN
        have hA : IsInts wq _ (grA M a X q) := tab.rest.reads (by unfold Short; omega) hA3
        obtain ⟨dA, mA, rfl, lA⟩ := hA.form
        have xq := eq.cell x1
        obtain ⟨bX, oX, rn, hdX, hr1, hr2, hcX⟩ := hX'.pt hXp.out (w' := wq) hlt
        cases hdX
        have hTl : (grT M a X q).length ≤ 1000000 := by rw [grT_len]; omega
        have hTs := hid (show grT M a X (q + 1) = grT M a X q ++ [grA M a X (q + 1)] from grT_succ)
        have hgs := hid (show grS M a X (q + 1) = grS M a X q + cell M (nth (grA M a X q) (nearL M (grA M a X q) (nth X q))).toNat (nth X q).toNat from rfl)
        have hga := hid (show grA M a X (q + 1) = svX (grA M a X q) (nth X q) (nearL M (grA M a X q) (nth X q)) from rfl)
        have hA1' := hid (hall.out (q + 1) hlt)
        have hin1 := hin.out q hq
        have hin2 := hin.out (q + 1) hlt
        rw [hgs.out] at hin2
        obtain ⟨s, hs⟩ : ∃ y, y = grS M a X q := ⟨_, rfl⟩
        rw [← hs] at hin1 hin2 hgs ⊢
        obtain ⟨A, hAd⟩ : ∃ y, y = grA M a X q := ⟨_, rfl⟩
        rw [← hAd] at tab hA hA1 hA2 hA3 hgs hga hin2 lA ⊢
        obtain ⟨A2, hA2d⟩ : ∃ y, y = grA M a X (q + 1) := ⟨_, rfl⟩
        rw [← hA2d] at hTs hga hA1'
        obtain ⟨T, hTd⟩ : ∃ y, y = grT M a X q := ⟨_, rfl⟩
        rw [← hTd] at tab hTs hTl hnO
        obtain ⟨r, hrd⟩ : ∃ y, y = nth X q := ⟨_, rfl⟩
        rw [← hrd] at hgs hga hr1 hin2
        have hA0 : 1 ≤ A.length := by omega
        have hAl3 : A.length ≤ 3 := by omega
        replace hA1 := hid hA1
        obtain ⟨bA, oA, p0, hdA, hp1, hp2, hcA⟩ := hA.pt hA2 (w' := wq) (k := 0) (by omega)
        cases hdA
        have hn0 := hid (show nth A (nearTo M A r 0) = (p0 : Int) from hp1)
        have hApt := hid hA2
        replace hs := hid hs
        replace hAd := hid hAd
        replace hA2d := hid hA2d
        replace hTd := hid hTd
        replace hrd := hid hrd
        replace hp1 := hid hp1
        have hr1' := hid hr1
        clear hr1
        rw [Nat.add_zero] at hcA
        go_wp2_with fail
        go_loopw [14, 36] (fun bv j wr => ∃ t : Nat, t ≤ A.length ∧ j = .int .i64 t ∧ bv = .int .i64 (nth A (nearTo M A r t)) ∧ Drew wq wr) (fun _ j _ => A.length - (intOf j).toNat)
        case atStart => exact ⟨0, by omega, rfl, by rw [hn0.out], Drew.refl _⟩
        case round =>
          obtain ⟨t, ht, rfl, rfl, hdw⟩ := hrel
          obtain ⟨wt, rfl⟩ : ∃ y : World, y = wr := ⟨_, rfl⟩
          have eqt : Ext wq wt := hdw.ext
          have e0t : Ext w0 wt := Ext.trans e0q eqt
          have xt := eqt.cell xq
          obtain ⟨bA', oA', p2, hdA2, hp21, hp22, hp23⟩ := hA.pt hApt.out (w' := wt) (k := nearTo M A r t) (near_one hA0 ht)
          cases hdA2
          obtain ⟨b4, o4, d4, m4, hd4, hc4, hi4, _⟩ := hR.at (w' := wt) (k := p2) hp22
          cases hd4
          have hrow := hid (square_row hsq.out hp22)
          obtain ⟨b5, o5, hd5, hc5⟩ := hi4.at (w' := wt) (k := rn) (by rw [hrow.out]; exact hr2)
          cases hd5
          have hlr : rn < (row M p2).length := by rw [hrow.out]; exact hr2
          by_cases hlt2 : t < A.length
          · obtain ⟨bA'', oA'', p1, hdA1, hp11, hp12, hp13⟩ := hA.pt hApt.out (w' := wt) (k := t) hlt2
            cases hdA1
            obtain ⟨b6, o6, d6, m6, hd6, hc6, hi6, _⟩ := hR.at (w' := wt) (k := p1) hp12
            cases hd6
            have hrow1 := hid (square_row hsq.out hp12)
            obtain ⟨b7, o7, hd7, hc7⟩ := hi6.at (w' := wt) (k := rn) (by rw [hrow1.out]; exact hr2)
            cases hd7
            have hlr1 : rn < (row M p1).length := by rw [hrow1.out]; exact hr2
            have hcl := hid (show cell M (nth A t).toNat r.toNat = nth (row M p1) rn by rw [hp11, hr1'.out]; rfl)
            have hcb := hid (show cell M (nth A (nearTo M A r t)).toNat r.toNat = nth (row M p2) rn by rw [hp21, hr1'.out]; rfl)
            by_cases hcmp : nth (row M p1) rn < nth (row M p2) rn
            · have hnx := hid (show nth A (nearTo M A r (t + 1)) = (p1 : Int) by rw [near_lt' (by rw [hcl.out, hcb.out]; exact hcmp), hp11])
              rw [hp21]
              replace hp21 := hid hp21
              replace hp11 := hid hp11
              generalize nth (row M p1) rn = y1 at *
              generalize nth (row M p2) rn = y2 at *
              go_wp2_with (go_quiet (fail))
              go_roundw
              case rel => exact ⟨t + 1, by omega, by go_num, by rw [hnx.out], hdw.step _⟩
              case measure => simp [intOf]; omega
            · have hnx := hid (show nth A (nearTo M A r (t + 1)) = (p2 : Int) by rw [near_ge' (by rw [hcl.out, hcb.out]; exact hcmp), hp21])
              rw [hp21]
              replace hp21 := hid hp21
              replace hp11 := hid hp11
              generalize nth (row M p1) rn = y1 at *
              generalize nth (row M p2) rn = y2 at *
              go_wp2_with (go_quiet (fail))
              go_roundw
              case rel => exact ⟨t + 1, by omega, by go_num, by rw [hnx.out], hdw.step _⟩
              case measure => simp [intOf]; omega
          · have htA : t = A.length := by omega
            have hnl := hid (show nearL M A r = nearTo M A r t by rw [htA]; rfl)
            have hcb := hid (show cell M (nth A (nearL M A r)).toNat r.toNat = nth (row M p2) rn by rw [hnl.out, hp21, hr1'.out]; rfl)
            have hmv := hid (show movL A (p2 : Int) (rn : Int) = A2 by
              rw [hga.out, ← hr1'.out, hnl.out, ← hp21]
              exact mov_sv (near_one hA0 ht))
            rw [hcb.out] at hgs hin2
            have hmem : (p2 : Int) ∈ A := by rw [← hp21]; exact nth_mem (near_one hA0 ht)
            have hri : I64 (rn : Int) := by unfold I64; omega
            rw [hp21]
            replace hp21 := hid hp21
            replace htA := hid htA
            have hAt := hA.ext (w' := wt)
            have tabt := tab.ext (w' := wt)
            have hBt : B ≤ wt.heap.size := Nat.le_trans hBq eqt.size
            have hbt : Below B w1 wt := hb.trans (eqt.below.mono hBq)
            generalize nth (row M p2) rn = y2 at *
            clear hA hcA xq tab hb
            go_wp2_with (go_quiet (fail))
            with_reducible refine (moved_any (w0 := wt) (w := wt) hAt hmem hri).mono ?_
            rw [hmv.out]
            rintro e w5 ⟨d5, m5, rfl, own5, e5⟩
            generalize Value.slice d5 A.length m5 = u5 at *
            have hU : IsInts w5 u5 A2 := own5.reads (by unfold Short; have := hA1'.out.1; omega) hA1'.out.2.2
            have tab5 := tabt.side own5 e5 hBt
            obtain ⟨dU, mU, rfl, lU⟩ := hU.form
            have hB5 : B ≤ w5.heap.size := Nat.le_trans hBt e5.size
            clear tabt own5
            go_wp2_with fail
            with_reducible refine (cloneInts_any (w0 := w5) (w := w5) hU).mono ?_
            rintro e w6 ⟨d6, m6, rfl, own6, e6⟩
            have tabX := tab5.join own6 e6 hB5
            have hB6 : B ≤ w6.heap.size := Nat.le_trans hB5 e6.size
            clear tab5 own6
            go_wp2_with (at_builtin; refine wpList_push rfl (.tmp 73) (.tmp 76) rfl rfl tabX hB6 rfl hTl ?_; intro v9 w9 tab9 b9)
            go_roundw
            case rel => exact ⟨q + 1, by omega, by go_num, by rw [hgs.out], by rw [hTs.out, ← hA2d.out]; exact tab9, ((hbt.trans (e5.below.mono hBt)).trans (e6.below.mono hB5)).trans b9⟩
            case measure => simp [intOf]; omega
      · have hqn : q = X.length := by omega
        rw [hqn] at tab
        have hT := tab.drop.reads hTok.out.1 hTok.out.2.1 hTok.out.2.2
        have hsq2 := hid (show grS M a X q = gsS M a X by rw [hr.out.2, hqn])
        rw [hsq2.out]
        replace hqn := hid hqn
        go_wp2_with fail
        go_ret3
        exact ⟨_, rfl, by rw [hr.out.1]; exact hT, Ext.trans e1w eq⟩

set_option maxHeartbeats 1600000 in
set_option maxRecDepth 100000 in
theorem l6Nearest_any {v va : Value} {M : List (List Int)} {A : List Int} {rn : Nat} {w0 w : World} [Ext w0 w] (hm : IsMet w0 v M) (hM : square M = true) (ha : IsInts w0 va A) (hA : Pts M.length A) (h1 : 1 ≤ A.length) (h3 : A.length ≤ 1000) (hr : rn < M.length) :
    Calls Tryz.prog 38 #[v, va, .int .i64 rn] w fun e w' => e = .returned (.int .i64 (nearL M A rn)) ∧ Ext w w' := by
  obtain ⟨v1, rfl, hR⟩ := hm
  obtain ⟨a1, c1, rfl, l1⟩ := hR.form
  obtain ⟨da, ma, rfl, la⟩ := ha.form
  have x0 : (w.alloc (.cells #[.slice a1 M.length c1] 26)).cell? ⟨w.heap.size, 0, none⟩ = some (.slice a1 M.length c1) := by go_simp
  have e1 : Ext w (w.alloc (.cells #[.slice a1 M.length c1] 26)) := inferInstance
  replace hM := hid hM
  have hn1 := hid (near_first (M := M) (a := A) (r := (rn : Int)))
  go_enter Tryz.func38, Tryz.ntmps38
  go_upto_region 2 with fail
  obtain ⟨bx, hbx⟩ : ∃ b, b = w.heap.size := ⟨_, rfl⟩
  rw [← hbx] at x0 ⊢
  replace hbx := hid hbx
  generalize w.alloc (.cells #[.slice a1 M.length c1] 26) = w1 at *
  have e01 : Ext w0 w1 := Ext.trans ‹Ext w0 w› e1
  go_wp2
  go_loopw [7, 8] (fun b i wr => ∃ t : Nat, 1 ≤ t ∧ t ≤ A.length ∧ i = .int .i64 t ∧ b = .int .i64 ((nearTo M A rn t : Nat) : Int) ∧ Drew w1 wr) (fun _ i _ => A.length - (intOf i).toNat)
  case atStart => exact ⟨1, by omega, h1, rfl, by rw [hn1.out]; rfl, Drew.refl _⟩
  case round =>
    obtain ⟨t, ht1, ht, rfl, rfl, hdw⟩ := hrel
    obtain ⟨wt, rfl⟩ : ∃ y : World, y = wr := ⟨_, rfl⟩
    have e1t : Ext w1 wt := hdw.ext
    have e0t : Ext w0 wt := Ext.trans e01 e1t
    have xt := e1t.cell x0
    by_cases hlt : t < A.length
    · obtain ⟨bA, oA, p1, hdA, hp11, hp12, hp13⟩ := ha.pt hA (w' := wt) hlt
      obtain ⟨bA2, oA2, p2, hdA2, hp21, hp22, hp23⟩ := ha.pt hA (w' := wt) (k := nearTo M A rn t) (near_one h1 ht)
      cases hdA
      cases hdA2
      have hbl := near_one (M := M) (a := A) (r := (rn : Int)) h1 ht
      obtain ⟨b4, o4, d4, m4, hd4, hc4, hi4, _⟩ := hR.at (w' := wt) (k := p2) hp22
      cases hd4
      have hrow := hid (square_row hM.out hp22)
      obtain ⟨b5, o5, hd5, hc5⟩ := hi4.at (w' := wt) (k := rn) (by rw [hrow.out]; exact hr)
      cases hd5
      have hlr : rn < (row M p2).length := by rw [hrow.out]; exact hr
      obtain ⟨b6, o6, d6, m6, hd6, hc6, hi6, _⟩ := hR.at (w' := wt) (k := p1) hp12
      cases hd6
      have hrow1 := hid (square_row hM.out hp12)
      obtain ⟨b7, o7, hd7, hc7⟩ := hi6.at (w' := wt) (k := rn) (by rw [hrow1.out]; exact hr)
      cases hd7
      have hlr1 : rn < (row M p1).length := by rw [hrow1.out]; exact hr
      have hcl := hid (show cell M (nth A t).toNat (rn : Int).toNat = nth (row M p1) rn by rw [hp11]; rfl)
      have hcb := hid (show cell M (nth A (nearTo M A rn t)).toNat (rn : Int).toNat = nth (row M p2) rn by rw [hp21]; rfl)
      by_cases hcmp : nth (row M p1) rn < nth (row M p2) rn
      · have hnx := hid (near_lt' (M := M) (a := A) (r := (rn : Int)) (j := t) (by rw [hcl.out, hcb.out]; exact hcmp))
        replace hp21 := hid hp21
        replace hp11 := hid hp11
        generalize nth (row M p1) rn = y1 at *
        generalize nth (row M p2) rn = y2 at *
        generalize nearTo M A rn t = nt at *
        go_wp2_with (go_quiet (fail))
        go_roundw
        case rel => exact ⟨t + 1, by omega, by omega, by go_num, by rw [hnx.out], hdw.step _⟩
        case measure => simp [intOf]; omega
      · have hnx := hid (near_ge' (M := M) (a := A) (r := (rn : Int)) (j := t) (by rw [hcl.out, hcb.out]; exact hcmp))
        replace hp21 := hid hp21
        replace hp11 := hid hp11
        generalize nth (row M p1) rn = y1 at *
        generalize nth (row M p2) rn = y2 at *
        generalize nearTo M A rn t = nt at *
        go_wp2_with (go_quiet (fail))
        go_roundw
        case rel => exact ⟨t + 1, by omega, by omega, by go_num, by rw [hnx.out], hdw.step _⟩
        case measure => simp [intOf]; omega
    · have htA : t = A.length := by omega
      have hfin := hid (show nearTo M A rn t = nearL M A rn by rw [htA]; rfl)
      rw [hfin.out]
      replace htA := hid htA
      go_wp2
      go_ret
      exact ⟨rfl, Ext.trans e1 e1t⟩

set_option maxHeartbeats 3200000 in
set_option maxRecDepth 100000 in
theorem specGs_any {v va vX : Value} {M : List (List Int)} {a X : List Int} {w0 w : World} [Ext w0 w] (hm : IsMet w0 v M) (ha : IsInts w0 va a) (hXi : IsInts w0 vX X) :
    Calls Tryz.prog 13 #[v, va, vX] w fun e w' => ∃ u, e = .returned (.tuple #[u, .int .i64 (gsS M a X), .bool (srvB M a X)]) ∧ IsRows w' u (gsT M a X) ∧ Ext w w' := by
  have hm' := hm
  have ha' := ha
  have hX' := hXi
  obtain ⟨v1, rfl, hR⟩ := hm
  obtain ⟨a1, c1, rfl, l1⟩ := hR.form
  obtain ⟨da, ma, rfl, la⟩ := ha.form
  obtain ⟨aX, mX, rfl, lX⟩ := hXi.form
  have x0 : (w.alloc (.cells #[.slice a1 M.length c1] 26)).cell? ⟨w.heap.size, 0, none⟩ = some (.slice a1 M.length c1) := by go_simp
  clear x0
  have ez : Ext w (w.alloc (.cells #[.slice a1 M.length c1] 26)) := inferInstance
  have z0 : ((w.alloc (.cells #[.slice a1 M.length c1] 26)).alloc (.cells #[] 27)).cell? ⟨w.heap.size, 0, none⟩ = some (.slice a1 M.length c1) := by go_simp
  have e2 : Ext w ((w.alloc (.cells #[.slice a1 M.length c1] 26)).alloc (.cells #[] 27)) := inferInstance
  have tab0 : Tab ((w.alloc (.cells #[.slice a1 M.length c1] 26)).alloc (.cells #[] 27)) (w.heap.size + 1) (.slice (some ⟨w.heap.size + 1, 0, none⟩) 0 0) [] [] := by
    have h := Tab.start (Own.nil (w.alloc (.cells #[.slice a1 M.length c1] 26)) (w.heap.size + 1)) (by simp)
    rw [show (w.alloc (.cells #[.slice a1 M.length c1] 26)).heap.size = w.heap.size + 1 by simp] at h
    exact h
  have hs2 : w.heap.size + 1 ≤ ((w.alloc (.cells #[.slice a1 M.length c1] 26)).alloc (.cells #[] 27)).heap.size := by simp
  cases hS : srvB M a X with
  | false =>
    have hr := hid (gs_no hS)
    replace hS := hid hS
    go_enter Tryz.func13, Tryz.ntmps13
    go_upto_region 2 with fail
    clear ez tab0 hs2
    obtain ⟨bx, hbx⟩ : ∃ b, b = w.heap.size := ⟨_, rfl⟩
    rw [← hbx] at z0 ⊢
    replace hbx := hid hbx
    generalize (w.alloc (.cells #[.slice a1 M.length c1] 26)).alloc (.cells #[] 27) = w2 at *
    have e02 : Ext w0 w2 := Ext.trans ‹Ext w0 w› e2
    go_wp2_with fail
    with_reducible refine (l6Start_any (w0 := w0) hm' ha' hX').mono ?_
    rw [hS.out]
    rintro e w1 ⟨rfl, e1⟩
    go_wp2_with fail
    go_ret3
    rw [hr.out.1, hr.out.2]
    exact ⟨_, rfl, rows_none _ _ _, Ext.trans e2 e1⟩
  | true =>
    have hr := hid (gs_yes hS)
    have hall := hid (gs_i64 hS)
    have hTok := hid (gsT_ok hS)
    have hin := hid (gr_in hS)
    obtain ⟨hM, hk, hac, hl60, hX⟩ := srv_parts hS
    have hn6 := met_len hM
    have hsq := hid (met_sq hM)
    have hdst := hid (dst_of_met hM)
    have hXp := hid (show Pts M.length X from fun x hx => by
      obtain ⟨j, hj, rfl⟩ := mem_iff_nth.1 hx
      exact hX j hj)
    clear hM hac hX
    replace hS := hid hS
    go_enter Tryz.func13, Tryz.ntmps13
    go_upto_region 2 with fail
    clear ez
    obtain ⟨B, hB⟩ : ∃ B, B = w.heap.size + 1 := ⟨_, rfl⟩
    rw [← hB] at tab0 hs2 ⊢
    have hwB : w.heap.size ≤ B := by omega
    have hbB : w.heap.size < B := by omega
    obtain ⟨bx, hbx⟩ : ∃ b, b = w.heap.size := ⟨_, rfl⟩
    rw [← hbx] at z0 hbB ⊢
    replace hbx := hid hbx
    replace hB := hid hB
    generalize (w.alloc (.cells #[.slice a1 M.length c1] 26)).alloc (.cells #[] 27) = w2 at *
    have e02 : Ext w0 w2 := Ext.trans ‹Ext w0 w› e2
    go_wp2_with fail
    with_reducible refine (l6Start_any (w0 := w0) hm' ha' hX').mono ?_
    rw [hS.out]
    rintro e w1 ⟨rfl, e1⟩
    have x1 := e1.cell z0
    have tab1 := tab0.ext (w' := w1)
    have e1w : Ext w w1 := Ext.trans e2 e1
    have hs1 : B ≤ w1.heap.size := Nat.le_trans hs2 e1.size
    have hEx := hid (show ∀ u, Below B w1 u → Ext w u from fun u h => ⟨e1w.below.trans (h.mono hwB)⟩)
    have hBu := hid (show ∀ u, Below B w1 u → B ≤ u.heap.size from fun u h => Nat.le_trans hs1 h.size)
    clear tab0 z0 hs2 e02 e1 e2
    go_wp2_with fail
    go_loopw [9, 10, 11, 12] (fun ov sv av i wr => ∃ q : Nat, q ≤ X.length ∧ i = .int .i64 q ∧ sv = .int .i64 (grS M a X q) ∧ (∃ R, Tab wr B ov (grT M a X q) R ∧ Hid (∀ u, Own u B R → Below B w1 u → IsInts u av (grA M a X q))) ∧ Below B w1 wr) (fun _ _ _ i _ => X.length - (intOf i).toNat)
    case atStart => exact ⟨0, by omega, rfl, rfl, ⟨[], tab1, hid (fun u _ h => ha'.ext (e := Ext.trans ‹Ext w0 w› (hEx.out _ h)))⟩, Below.refl _ _⟩
    case round =>
      clear tab1
      obtain ⟨q, hq, rfl, rfl, ⟨R, tab, hrd⟩, hb⟩ := hrel
      obtain ⟨wq, rfl⟩ : ∃ y : World, y = wr := ⟨_, rfl⟩
      have ewq : Ext w wq := hEx.out _ hb
      have e0q : Ext w0 wq := Ext.trans ‹Ext w0 w› ewq
      have hBq := hBu.out _ hb
      have xq : wq.cell? ⟨bx, 0, none⟩ = some (.slice a1 M.length c1) := (hb.cell (p := ⟨bx, 0, none⟩) hbB).trans x1
      obtain ⟨hA1, hA2, hA3⟩ := hall.out q hq
      by_cases hlt : q < X.length
      · obtain ⟨dO, nO, mO, rfl, hnO⟩ := tab.formN
        have hA := hrd.out wq tab.rest hb
        clear hrd
        obtain ⟨dA, mA, rfl, lA⟩ := hA.form
        obtain ⟨bX, oX, rn, rfl, hr1, hr2, hcX⟩ := hX'.pt hXp.out (w' := wq) hlt
        have hTl : (grT M a X q).length ≤ 1000000 := by rw [grT_len]; omega
        have hTs := hid (show grT M a X (q + 1) = grT M a X q ++ [grA M a X (q + 1)] from grT_succ)
        have hgs := hid (show grS M a X (q + 1) = grS M a X q + cell M (nth (grA M a X q) (nearL M (grA M a X q) (nth X q))).toNat (nth X q).toNat from rfl)
        have hga := hid (show grA M a X (q + 1) = sortL ((grA M a X q).set (nearL M (grA M a X q) (nth X q)) (nth X q)) from rfl)
        have hA1' := hid (hall.out (q + 1) hlt)
        have hin1 := hin.out q hq
        have hin2 := hin.out (q + 1) hlt
        rw [hgs.out] at hin2
        obtain ⟨s, hs⟩ : ∃ y, y = grS M a X q := ⟨_, rfl⟩
        rw [← hs] at hin1 hin2 hgs ⊢
        obtain ⟨A, hAd⟩ : ∃ y, y = grA M a X q := ⟨_, rfl⟩
        rw [← hAd] at hA hA1 hA2 hA3 hgs hga hin2 lA ⊢
        obtain ⟨A2, hA2d⟩ : ∃ y, y = grA M a X (q + 1) := ⟨_, rfl⟩
        rw [← hA2d] at hTs hga hA1'
        obtain ⟨T, hTd⟩ : ∃ y, y = grT M a X q := ⟨_, rfl⟩
        rw [← hTd] at tab hTs hTl hnO
        rw [hr1] at hgs hga hin2
        have hA0 : 1 ≤ A.length := by omega
        have hAl3 : A.length ≤ 3 := by omega
        have hkl := near_lt (M := M) (a := A) (r := (rn : Int)) hA0
        have hApt := hid hA2
        replace hA1 := hid hA1
        replace hs := hid hs
        replace hAd := hid hAd
        replace hA2d := hid hA2d
        replace hTd := hid hTd
        replace hr1 := hid hr1
        have hSx := hid (show ∀ u, Ext wq u → u.cell? ⟨bx, 0, none⟩ = some (.slice a1 M.length c1) ∧ u.cell? ⟨bX, oX + q, none⟩ = some (.int .i64 rn) from fun u e => ⟨e.cell xq, e.cell hcX⟩)
        go_upto_region 8 with fail
        refine region_held_from (w0 := wq) (S := fun u => u.cell? ⟨bx, 0, none⟩ = some (.slice a1 M.length c1) ∧ u.cell? ⟨bX, oX + q, none⟩ = some (.int .i64 rn)) (by kernel_rfl) hSx.out (fun wd ed hHeld0 => ?_)
        refine wpAnyH_take (i := 0) (v := .agg #[.slice a1 M.length c1]) rfl (by kernel_rfl) (by kernel_rfl) (by kernel_rfl) (fun _ _ _ h => h) (Or.inl ⟨by rfl, by intro wx hx; obtain ⟨_, _⟩ := hx; go_simp⟩) (by assumption) ?_
        try simp only [List.getElem_toArray, List.getElem_cons_zero, Act.put, List.setIfInBounds_toArray, List.set_cons_zero, List.set_cons_succ]
        refine wpAnyH_take (i := 1) (v := .slice dA A.length mA) rfl (by kernel_rfl) (by kernel_rfl) (by kernel_rfl) (fun _ _ _ h => h) (Or.inl ⟨by rfl, by intro wx hx; go_simp⟩) (by assumption) ?_
        try simp only [List.getElem_toArray, List.getElem_cons_succ, List.getElem_cons_zero, Act.put, List.setIfInBounds_toArray, List.set_cons_zero, List.set_cons_succ]
        refine wpAnyH_take (i := 2) (v := .slice (some ⟨bX, oX, none⟩) X.length mX) rfl (by kernel_rfl) (by kernel_rfl) (by kernel_rfl) (fun _ _ _ h => h) (Or.inl ⟨by rfl, by intro wx hx; go_simp⟩) (by assumption) ?_
        try simp only [List.getElem_toArray, List.getElem_cons_succ, List.getElem_cons_zero, Act.put, List.setIfInBounds_toArray, List.set_cons_zero, List.set_cons_succ]
        refine wpAnyH_take (i := 3) (v := .int .i64 q) rfl (by kernel_rfl) (by kernel_rfl) (by kernel_rfl) (fun _ _ _ h => h) (Or.inl ⟨by rfl, by intro wx hx; go_simp⟩) (by assumption) ?_
        try simp only [List.getElem_toArray, List.getElem_cons_succ, List.getElem_cons_zero, Act.put, List.setIfInBounds_toArray, List.set_cons_zero, List.set_cons_succ]
        refine wpAnyH_take (i := 4) (v := .pointer (some ⟨bX, oX + q, none⟩)) rfl (by kernel_rfl) (by kernel_rfl) (by kernel_rfl) (fun _ _ _ h => h) (Or.inl ⟨by rfl, by intro wx hx; go_simp⟩) (by assumption) ?_
        try simp only [List.getElem_toArray, List.getElem_cons_succ, List.getElem_cons_zero, Act.put, List.setIfInBounds_toArray, List.set_cons_zero, List.set_cons_succ]
        refine wpAnyH_take (i := 5) (v := .int .i64 rn) rfl (by kernel_rfl) (by kernel_rfl) (by kernel_rfl) (fun _ _ _ h => h) (Or.inl ⟨by rfl, by intro wx hx; obtain ⟨_, _⟩ := hx; go_simp⟩) (by assumption) ?_
        try simp only [List.getElem_toArray, List.getElem_cons_succ, List.getElem_cons_zero, Act.put, List.setIfInBounds_toArray, List.set_cons_zero, List.set_cons_succ]
        refine wpAnyH_ready (rs := [6]) (by kernel_rfl) (by simp) ?_
        refine AllReadyH.cons rfl (fun K hK => ?_) AllReadyH.nil
        go_simp
        go_at_call 38
        refine (l6Nearest_any (w0 := wq) (w := wd) (hm'.ext (e := e0q)) hsq.out hA hApt.out hA0 (by omega) hr2).mono ?_
        rintro e w5 ⟨rfl, e5⟩
        have eq5 : Ext wq w5 := Ext.trans ed e5
        have hS5 := hSx.out _ eq5
        generalize nearL M A (rn : Int) = k at *
        go_wp2_with fail
        refine hK.out _ _ hS5 (fun _ => ?_)
        clear hK K
        try simp only [List.getElem_toArray, List.getElem_cons_succ, List.getElem_cons_zero, Act.put, List.setIfInBounds_toArray, List.set_cons_zero, List.set_cons_succ]
        refine wpAnyH_take (i := 7) (v := .int .i64 k) rfl (by kernel_rfl) (by kernel_rfl) (by kernel_rfl) (fun _ _ _ h => h) (Or.inl ⟨by rfl, by intro wx hx; go_simp⟩) (by assumption) ?_
        try simp only [List.getElem_toArray, List.getElem_cons_succ, List.getElem_cons_zero, Act.put, List.setIfInBounds_toArray, List.set_cons_zero, List.set_cons_succ]
        refine wpAnyH_done (by kernel_rfl) ?_ _
        have e05 : Ext w0 w5 := Ext.trans e0q eq5
        obtain ⟨x5, cX5⟩ := hS5
        obtain ⟨bA, oA, p2, hdA2, hp21, hp22, hp23⟩ := hA.pt hApt.out (w' := w5) (k := k) hkl
        subst hdA2
        obtain ⟨b4, o4, d4, m4, hd4, hc4, hi4, _⟩ := hR.at (w' := w5) (k := p2) hp22
        cases hd4
        have hrow := hid (square_row hsq.out hp22)
        obtain ⟨b5, o5, hd5, hc5⟩ := hi4.at (w' := w5) (k := rn) (by rw [hrow.out]; exact hr2)
        cases hd5
        have hlr : rn < (row M p2).length := by rw [hrow.out]; exact hr2
        have hcb := hid (show cell M (nth A k).toNat (rn : Int).toNat = nth (row M p2) rn by rw [hp21]; rfl)
        rw [hcb.out] at hgs hin2
        replace hp21 := hid hp21
        generalize nth (row M p2) rn = y2 at *
        go_upto_region 10 with (go_quiet (fail))
        generalize hw6 : w5.drewN nq = w6
        have e56 : Ext w5 w6 := hw6 ▸ inferInstance
        clear hw6
        have eq6 : Ext wq w6 := Ext.trans eq5 e56
        have tab6 := tab.ext (w' := w6)
        have hB6 : B ≤ w6.heap.size := Nat.le_trans hBq eq6.size
        have b6 : Below B w1 w6 := hb.trans (eq6.below.mono hBq)
        clear tab
        go_wp2_with fail
        with_reducible refine (l1Own_any (w0 := wq) (w := w6) hA).mono ?_
        rintro e w7 ⟨d7, m7, rfl, own7, e7⟩
        obtain ⟨g7, rfl⟩ := own7.at (j := 0) (show 0 < A.length by omega)
        have c7 : w7.cell? ⟨g7, k, none⟩ = some (.int .i64 (nth A k)) := by
          rw [own7.cellAt (w' := w7) hkl]; simp [nth, hkl]
        have f7 := own7.frozenAt k
        have cX7 := (Ext.trans eq6 e7).cell hcX
        have own8 := own7.set k (.int .i64 rn)
        have e8 : Ext w6 (w7.setCell ⟨g7, k, none⟩ (.int .i64 rn)) := ⟨e7.below.setCell own7.lt.1 _⟩
        rw [← List.map_set] at own8
        have eX : (⟨3, 1, .slice (some ⟨g7, 0, none⟩) A.length m7, A.length, (A.set k rn).map (Value.int .i64)⟩ : Row) = intRowOf 3 (.slice (some ⟨g7, 0, none⟩) A.length m7) (A.set k rn) := by unfold intRowOf; rw [List.length_set]
        rw [eX] at own8
        replace eX := hid eX
        have hi8 : IsInts (w7.setCell ⟨g7, k, none⟩ (.int .i64 rn)) (.slice (some ⟨g7, 0, none⟩) A.length m7) (A.set k rn) := own8.reads (by unfold Short; rw [List.length_set]; omega) (fun x hx => by
          rcases List.mem_or_eq_of_mem_set hx with h | h
          · exact hA3 x h
          · rw [h]; unfold I64; omega)
        go_upto_region 12 with fail
        generalize w7.setCell ⟨g7, k, none⟩ (.int .i64 rn) = w8 at *
        have tab8 := tab6.ext (w' := w8)
        have hB8 : B ≤ w8.heap.size := Nat.le_trans hB6 e8.size
        clear c7 f7 own7 own8 tab6 cX7
        go_wp2_with fail
        with_reducible refine (l6Sort_any (w0 := w8) (w := w8) hi8 (by rw [List.length_set]; omega)).mono ?_
        rw [← hga.out]
        rintro e w9 ⟨u9, rfl, own9, e9⟩
        have hU : IsInts w9 u9 A2 := own9.reads (by unfold Short; have := hA1'.out.1; omega) hA1'.out.2.2
        have tab9 := tab8.side own9 e9 hB8
        obtain ⟨dU, mU, rfl, lU⟩ := hU.form
        have hB9 : B ≤ w9.heap.size := Nat.le_trans hB8 e9.size
        have b9 : Below B w1 w9 := (b6.trans (e8.below.mono hB6)).trans (e9.below.mono hB8)
        clear tab8 own9
        go_wp2_with fail
        with_reducible refine (l1Own_any (w0 := w9) (w := w9) hU).mono ?_
        rintro e w10 ⟨d10, m10, rfl, own10, e10⟩
        have tabX := tab9.join own10 e10 hB9
        have hB10 : B ≤ w10.heap.size := Nat.le_trans hB9 e10.size
        clear tab9 own10
        go_wp2_with (at_builtin; refine wpList_push rfl (.tmp 63) (.tmp 66) rfl rfl tabX hB10 rfl hTl ?_; intro v11 w11 tab11 b11)
        go_roundw
        case rel => exact ⟨q + 1, by omega, by go_num, by rw [hgs.out], ⟨_, by rw [hTs.out]; exact tab11, hid (fun u h _ => by
          rw [← hA2d.out]
          exact h.reads (by unfold Short; have := hA1'.out.1; omega) hA1'.out.2.2)⟩, (b9.trans (e10.below.mono hB9)).trans b11⟩
        case measure => simp [intOf]; omega
      · have hqn : q = X.length := by omega
        rw [hqn] at tab
        have hT := tab.drop.reads hTok.out.1 hTok.out.2.1 hTok.out.2.2
        have hsq2 := hid (show grS M a X q = gsS M a X by rw [hr.out.2, hqn])
        rw [hsq2.out]
        replace hqn := hid hqn
        go_wp2_with fail
        go_ret3
        exact ⟨_, rfl, by rw [hr.out.1]; exact hT, ewq⟩
end Go.Proofs.YtkibmjenjgijmaaGreat
