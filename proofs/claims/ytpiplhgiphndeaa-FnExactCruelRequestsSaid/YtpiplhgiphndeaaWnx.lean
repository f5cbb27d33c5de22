/- The next work list, as the program makes it. -/
import Derived.Test.YtpiplhgiphndeaaGrF
import Derived.Test.YtpiplhgiphndeaaGrG
import Derived.StillTailTactics
namespace Go.Proofs.Ytpiplhgiphndeaa
open Go.RowKit

/-- the value at i when j configurations are seen -/
def wxAt (M P : List (List Int)) (ws : List Int) (r : Int) : Nat → Nat → Int
  | 0, _ => 1073741824
  | j + 1, i => if hasB (row P j) r then (if viS M P ws i j < wxAt M P ws r j i then viS M P ws i j else wxAt M P ws r j i) else wxAt M P ws r j i
def wxL (M P : List (List Int)) (ws : List Int) (r : Int) (j x : Nat) : List Int := (List.range ws.length).map fun y => wxAt M P ws r (if y < x then j + 1 else j) y
def wnxL (M P : List (List Int)) (ws : List Int) (r : Int) : List Int := wxL M P ws r P.length 0
theorem wxL_length (M P : List (List Int)) (ws : List Int) (r : Int) (j x : Nat) : (wxL M P ws r j x).length = ws.length := by simp [wxL]
theorem nth_wxL {M P : List (List Int)} {ws : List Int} {r : Int} {j x y : Nat} (h : y < ws.length) : nth (wxL M P ws r j x) y = wxAt M P ws r (if y < x then j + 1 else j) y := by simp [wxL, nth, h]
theorem wxL_zero (M P : List (List Int)) (ws : List Int) (r : Int) : wxL M P ws r 0 0 = List.replicate ws.length 1073741824 := by
  refine eq_of_nth (by rw [wxL_length, List.length_replicate]) fun y hy => ?_
  rw [wxL_length] at hy
  rw [nth_wxL hy]
  simp [wxAt, nth, hy]
theorem wxL_full (M P : List (List Int)) (ws : List Int) (r : Int) (j : Nat) : wxL M P ws r j ws.length = wxL M P ws r (j + 1) 0 := by
  refine eq_of_nth (by rw [wxL_length, wxL_length]) fun y hy => ?_
  rw [wxL_length] at hy
  rw [nth_wxL hy, nth_wxL hy, if_pos hy, if_neg (by omega)]
theorem wxL_skip {M P : List (List Int)} {ws : List Int} {r : Int} {j : Nat} (h : hasB (row P j) r = false) : wxL M P ws r (j + 1) 0 = wxL M P ws r j 0 := by
  refine eq_of_nth (by rw [wxL_length, wxL_length]) fun y hy => ?_
  rw [wxL_length] at hy
  rw [nth_wxL hy, nth_wxL hy, if_neg (by omega), if_neg (by omega), wxAt, h]
  rfl
theorem wxL_set {M P : List (List Int)} {ws : List Int} {r : Int} {j x : Nat} (hx : x < ws.length) : ((wxL M P ws r j x).map (Value.int .i64)).set x (.int .i64 (wxAt M P ws r (j + 1) x)) = (wxL M P ws r j (x + 1)).map (Value.int .i64) := by
  rw [← List.map_set]
  congr 1
  refine eq_of_nth (by rw [List.length_set, wxL_length, wxL_length]) fun y hy => ?_
  rw [List.length_set, wxL_length] at hy
  rw [nth_wxL hy]
  by_cases h : y = x
  · subst h
    simp [nth, wxL_length, hy]
  · have e : nth ((wxL M P ws r j x).set x (wxAt M P ws r (j + 1) x)) y = nth (wxL M P ws r j x) y := by
      simp [nth, Ne.symm h]
    rw [e, nth_wxL hy]
    by_cases h2 : y < x
    · rw [if_pos h2, if_pos (by omega)]
    · rw [if_neg h2, if_neg (by omega)]
theorem wxAt_succ {M P : List (List Int)} {ws : List Int} {r : Int} {j i : Nat} (h : hasB (row P j) r = true) : wxAt M P ws r (j + 1) i = if viS M P ws i j < wxAt M P ws r j i then viS M P ws i j else wxAt M P ws r j i := by rw [wxAt, if_pos h]
/-- what is made so is the least of the ways, and far where there is none -/
theorem wxAt_le {M P : List (List Int)} {ws : List Int} {r : Int} {i : Nat} : ∀ j, wxAt M P ws r j i ≤ 1073741824 ∧ (∀ t, t < j → r ∈ row P t → wxAt M P ws r j i ≤ viS M P ws i t) ∧ (wxAt M P ws r j i = 1073741824 ∨ ∃ t, t < j ∧ r ∈ row P t ∧ wxAt M P ws r j i = viS M P ws i t) := by
  intro j
  induction j with
  | zero => exact ⟨by simp [wxAt], fun t ht => by omega, .inl rfl⟩
  | succ j ih =>
    obtain ⟨h1, h2, h3⟩ := ih
    have h3' : wxAt M P ws r j i = 1073741824 ∨ ∃ t, t < j + 1 ∧ r ∈ row P t ∧ wxAt M P ws r j i = viS M P ws i t := h3.imp_right fun ⟨t, a, b, c⟩ => ⟨t, by omega, b, c⟩
    cases hb : hasB (row P j) r with
    | false =>
      rw [show wxAt M P ws r (j + 1) i = wxAt M P ws r j i by rw [wxAt, hb]; rfl]
      refine ⟨h1, fun t ht hr => ?_, h3'⟩
      by_cases h4 : t = j
      · subst h4; exact absurd hr (hasB_false.1 hb)
      · exact h2 t (by omega) hr
    | true =>
      rw [wxAt_succ hb]
      by_cases h5 : viS M P ws i j < wxAt M P ws r j i
      · rw [if_pos h5]
        refine ⟨by omega, fun t ht hr => ?_, .inr ⟨j, by omega, hasB_true.1 hb, rfl⟩⟩
        by_cases h4 : t = j
        · subst h4; exact Int.le_refl _
        · have := h2 t (by omega) hr; omega
      · rw [if_neg h5]
        refine ⟨h1, fun t ht hr => ?_, h3'⟩
        by_cases h4 : t = j
        · subst h4; omega
        · exact h2 t (by omega) hr

set_option maxHeartbeats 1600000 in
set_option maxRecDepth 100000 in
theorem wnx_any {v vw : Value} {M P : List (List Int)} {ws : List Int} {r : Int} {w0 w : World} [Ext w0 w] (hW : IsWorks w0 v M P) (hw : IsInts w0 vw ws) (h1P : 1 ≤ P.length) (hl : P.length ≤ 1000) (hlw : ws.length = P.length) (hb : ∀ j, j < P.length → 0 ≤ nth ws j ∧ nth ws j ≤ 1000000) (hmv : ∀ i j, i < P.length → j < P.length → 0 ≤ mvC M (row P i) (row P j) ∧ mvC M (row P i) (row P j) ≤ 1000) :
    Calls Try.prog 67 #[v, vw, .int .i64 r] w fun e w' => ∃ d m, e = .returned (.slice d (wnxL M P ws r).length m) ∧ Own w' w.heap.size [intRowOf 3 (.slice d (wnxL M P ws r).length m) (wnxL M P ws r)] ∧ Ext w w' := by
  obtain ⟨b, mv, pv, cv, rfl, h0, h1, h2, hM, hP, hC⟩ := hW
  have x1 := (‹Ext w0 w›).cell h1
  obtain ⟨a3, c3, rfl, l3⟩ := hw.form
  obtain ⟨aP, cP, rfl, lP⟩ := hP.form
  obtain ⟨aC, cC, rfl, lC⟩ := hC.form
  replace hb := hid hb
  replace hmv := hid hmv
  replace hlw := hid hlw
  have hcl := hid (show (cosL M P).length = P.length by simp [cosL])
  go_enter Try.func67, Try.ntmps67
  go_wp2_with fail
  generalize hWW : w.alloc (.cells #[.int .i64 1073741824] 3) = W
  have eW : Ext w W := hWW ▸ inferInstance
  have hfar : IsInts W (.slice (some ⟨w.heap.size, 0, none⟩) ([1073741824] : List Int).length 1) [1073741824] := by
    subst hWW
    exact (Own.litInts (W := w) (B := 0) (e := 3) (xs := [1073741824]) (Nat.zero_le _) (by simp) rfl (by simp) rfl).reads (by unfold Short; simp) (by intro x hx; simp at hx; subst hx; unfold I64; omega)
  have eW0 : Ext w0 W := Ext.trans ‹Ext w0 w› eW
  clear hWW
  refine (sRepeatN_any (w0 := W) (n := ws.length) hfar (by have := hlw.out; omega) (by have := hlw.out; omega)).mono ?_
  rintro e W1 ⟨od, om, rfl, own1, hb1⟩
  rw [List.length_replicate] at own1 ⊢
  have own : Own W1 W.heap.size [⟨3, 1, .slice od ws.length om, ws.length, (wxL M P ws r 0 0).map (Value.int .i64)⟩] := by
    rw [wxL_zero]
    unfold intRowOf at own1
    rw [List.length_replicate] at own1
    exact own1
  clear own1
  have y1 := (Ext.trans eW0 hb1).cell h1
  have hbW : Below W.heap.size W W1 := hb1.below
  go_wp2_with fail
  go_loopw [20] (fun i wr => ∃ j : Nat, j ≤ P.length ∧ i = .int .i64 j ∧ Own wr W.heap.size [⟨3, 1, .slice od ws.length om, ws.length, (wxL M P ws r j 0).map (Value.int .i64)⟩] ∧ Below W.heap.size W wr) (fun i _ => P.length - (intOf i).toNat)
  case atStart => exact ⟨0, by omega, rfl, own, hbW⟩
  case round =>
    obtain ⟨j, hj, rfl, hown, hb0⟩ := hrel
    obtain ⟨wo, rfl⟩ : ∃ x : World, x = wr := ⟨_, rfl⟩
    by_cases hlt : j < P.length
    · have eWo : Ext W wo := ⟨hb0⟩
      have e0o : Ext w0 wo := Ext.trans eW0 eWo
      obtain ⟨b5, o5, d5, m5, rfl, hc5, hr5, _⟩ := hP.at (w' := wo) hlt
      have hr5' : IsInts w0 _ (row P j) := hr5
      cases hh : hasB (row P j) r with
      | false =>
        have hsk := hid (wxL_skip (M := M) (ws := ws) hh)
        go_wp2_with fail
        refine (sContains_any (w0 := w0) hr5').mono ?_
        rintro e w9 ⟨rfl, rfl⟩
        rw [hh]
        replace hh := hid hh
        go_wp2
        go_roundw
        case rel => exact ⟨j + 1, by omega, by go_num, by rw [hsk.out]; exact hown, hb0⟩
        case measure => simp [intOf]; omega
      | true =>
        go_wp2_with fail
        refine (sContains_any (w0 := w0) hr5').mono ?_
        rintro e w9 ⟨rfl, rfl⟩
        rw [hh]
        replace hh := hid hh
        have hfull := hid (wxL_full M P ws r j)
        have hlC : j < (cosL M P).length := by rw [hcl.out]; exact hlt
        have hlW : j < ws.length := by rw [hlw.out]; exact hlt
        go_wp2
        go_loopw [31] (fun i wi => ∃ x : Nat, x ≤ ws.length ∧ i = .int .i64 x ∧ Own wi W.heap.size [⟨3, 1, .slice od ws.length om, ws.length, (wxL M P ws r j x).map (Value.int .i64)⟩] ∧ Below W.heap.size W wi) (fun i _ => ws.length - (intOf i).toNat)
        case atStart => exact ⟨0, by omega, rfl, hown, hb0⟩
        case round =>
          obtain ⟨x, hxl, rfl, hown2, hb3⟩ := hrel
          by_cases hltx : x < ws.length
          · have hxP : x < P.length := by rw [← hlw.out]; exact hltx
            have eWr : Ext W wr := ⟨hb3⟩
            have e0 : Ext w0 wr := Ext.trans eW0 eWr
            have y2 := e0.cell h2
            obtain ⟨g, rfl⟩ := hown2.at hltx
            have hf := hown2.frozenAt x
            have hc := hown2.cellAt (w' := wr) hltx
            have hcx : ((wxL M P ws r j x).map (Value.int .i64)).getD x undef = .int .i64 (wxAt M P ws r j x) := by
              have e := nth_wxL (M := M) (P := P) (r := r) (j := j) (x := x) hltx
              rw [if_neg (by omega)] at e
              rw [← e]
              simp [nth, wxL_length, hltx]
            rw [hcx] at hc
            clear hcx
            have hset := hid (wxL_set (M := M) (P := P) (r := r) (j := j) hltx)
            have hcur := (wxAt_le (M := M) (P := P) (ws := ws) (r := r) (i := x) j).1
            obtain ⟨b4, o4, rfl, hc4⟩ := hw.at (w' := wr) hlW
            obtain ⟨b7, o7, d7, m7, rfl, hc7, hr7, _⟩ := hC.at (w' := wr) hlC
            obtain ⟨hrl, hrn⟩ := cosL_at (M := M) hlt hxP
            rw [hrl] at hr7 hc7
            replace hrl := hid hrl
            obtain ⟨b8, o8, rfl, hc8⟩ := hr7.at (w' := wr) (k := x) (by rw [hrl.out]; exact hxP)
            rw [hrn] at hc8
            clear hrn
            have q1 := hb.out j hlt
            have q2 := hmv.out j x hlt hxP
            have hmin := hid (show wxAt M P ws r (j + 1) x = if nth ws j + mvC M (row P j) (row P x) < wxAt M P ws r j x then nth ws j + mvC M (row P j) (row P x) else wxAt M P ws r j x by rw [wxAt_succ hh.out]; rfl)
            have hlow : -1 ≤ wxAt M P ws r j x := by
              rcases (wxAt_le (M := M) (P := P) (ws := ws) (r := r) (i := x) j).2.2 with h3 | ⟨t, ht, _, h3⟩
              · omega
              · have := hb.out t (by omega)
                have := hmv.out t x (by omega) hxP
                rw [h3, viS]; omega
            generalize wxAt M P ws r j x = cu at *
            generalize mvC M (row P j) (row P x) = mv1 at *
            have hgB := hown2.lt.1
            by_cases hlc : nth ws j + mv1 < cu
            · have hm2 := hid (show wxAt M P ws r (j + 1) x = min cu (nth ws j + mv1) by rw [hmin.out, if_pos hlc]; omega)
              clear hmin
              go_upto_region 9 with fail
              go_still_tail 23, (by kernel_rfl)
              change wpList _ _ _ _ _ wr.drew
              have hfd : wr.drew.frozen? ⟨g, x, none⟩ = false := hf
              have hcd : wr.drew.cell? ⟨g, x, none⟩ = some (.int .i64 cu) := hc
              go_wp2
              go_roundw
              case rel =>
                refine ⟨x + 1, by omega, by go_num, ?_, hb3.drew.setCell hgB _⟩
                have h := (hown2.ext (w' := wr.drew)).set x (.int .i64 (wxAt M P ws r (j + 1) x))
                rw [hset.out] at h
                rw [hm2.out] at h
                exact h
              case measure => simp [intOf]; omega
            · have hm2 := hid (show wxAt M P ws r (j + 1) x = min cu (nth ws j + mv1) by rw [hmin.out, if_neg hlc]; omega)
              clear hmin
              go_upto_region 9 with fail
              go_still_tail 23, (by kernel_rfl)
              change wpList _ _ _ _ _ wr.drew
              have hfd : wr.drew.frozen? ⟨g, x, none⟩ = false := hf
              have hcd : wr.drew.cell? ⟨g, x, none⟩ = some (.int .i64 cu) := hc
              go_wp2
              go_roundw
              case rel =>
                refine ⟨x + 1, by omega, by go_num, ?_, hb3.drew.setCell hgB _⟩
                have h := (hown2.ext (w' := wr.drew)).set x (.int .i64 (wxAt M P ws r (j + 1) x))
                rw [hset.out] at h
                rw [hm2.out] at h
                exact h
              case measure => simp [intOf]; omega
          · have : x = ws.length := by omega
            subst this
            rw [hfull.out] at hown2
            go_wp2
            go_roundw
            case rel => exact ⟨j + 1, by omega, by go_num, hown2, hb3⟩
            case measure => simp [intOf]; omega
    · have : j = P.length := by omega
      subst this
      go_wp2
      go_ret
      refine ⟨od, om, by rw [wnxL, wxL_length]; rfl, ?_, ⟨eW.below.trans (hb0.mono eW.size)⟩⟩
      unfold intRowOf
      rw [wnxL, wxL_length]
      exact hown.mono eW.size
end Go.Proofs.Ytpiplhgiphndeaa
