/- Several texts in one: Wnx NxtQ SvP Swq CfgS. -/
import Derived.Test.YtllfchcocgdcjaaGreatGrF
import Derived.Test.YtllfchcocgdcjaaGreatGrG
import Derived.StillTailTactics
import Derived.Test.YtllfchcocgdcjaaGreatSrs
import Derived.Test.YtllfchcocgdcjaaGreatGrE
/- The next work list, as the program makes it. -/
namespace Go.Proofs.YtllfchcocgdcjaaGreat
open Go.RowKit

/-- the value at i when j configurations are seen -/
def wxAt (M P : List (List Int)) (ws : List Int) (r : Int) : Nat → Nat → Int
  | 0, _ => 1073741824
  | j + 1, i => if hasB (row P j) r then (if viS M P ws i j < wxAt M P ws r j i then viS M P ws i j else wxAt M P ws r j i) else wxAt M P ws r j i
def wxL (M P : List (List Int)) (ws : List Int) (r : Int) (j x : Nat) : List Int := (List.range ws.length).map fun y => wxAt M P ws r (if y < x then j + 1 else j) y
def wnxL (M P : List (List Int)) (ws : List Int) (r : Int) : List Int := wxL M P ws r P.length 0
theorem wxL_length (M P : List (List Int)) (ws : List Int) (r : Int) (j x : Nat) : (wxL M P ws r j x).length = ws.length := by simp [wxL]
theorem nth_wxL {M P : List (List Int)} {ws : List Int} {r : Int} {j x y : Nat} (h : y < ws.length) : nth (wxL M P ws r j x) y = wxAt M P ws r (if y < x then j + 1 else j) y := by simp [wxL, nth, h]
theorem wxL_zero (M P : List (List Int)) (ws : List Int) (r : Int) : wxL M P ws r 0 0 = List.replicate ws.length 1073741824 := by
  refine eq_of_nth (by rw [wxL_length, List.length_replicate]) fun y hy => ?_
  rw [wxL_length] at hy
  rw [nth_wxL hy]
  simp [wxAt, nth, hy]
theorem wxL_full (M P : List (List Int)) (ws : List Int) (r : Int) (j : Nat) : wxL M P ws r j ws.length = wxL M P ws r (j + 1) 0 := by
  refine eq_of_nth (by rw [wxL_length, wxL_length]) fun y hy => ?_
  rw [wxL_length] at hy
  rw [nth_wxL hy, nth_wxL hy, if_pos hy, if_neg (by omega)]
theorem wxL_skip {M P : List (List Int)} {ws : List Int} {r : Int} {j : Nat} (h : hasB (row P j) r = false) : wxL M P ws r (j + 1) 0 = wxL M P ws r j 0 := by
  refine eq_of_nth (by rw [wxL_length, wxL_length]) fun y hy => ?_
  rw [wxL_length] at hy
  rw [nth_wxL hy, nth_wxL hy, if_neg (by omega), if_neg (by omega), wxAt, h]
  rfl
theorem wxL_set {M P : List (List Int)} {ws : List Int} {r : Int} {j x : Nat} (hx : x < ws.length) : ((wxL M P ws r j x).map (Value.int .i64)).set x (.int .i64 (wxAt M P ws r (j + 1) x)) = (wxL M P ws r j (x + 1)).map (Value.int .i64) := by
  rw [← List.map_set]
  congr 1
  refine eq_of_nth (by rw [List.length_set, wxL_length, wxL_length]) fun y hy => ?_
  rw [List.length_set, wxL_length] at hy
  rw [nth_wxL hy]
  by_cases h : y = x
  · subst h
    simp [nth, wxL_length, hy]
  · have e : nth ((wxL M P ws r j x).set x (wxAt M P ws r (j + 1) x)) y = nth (wxL M P ws r j x) y := by
      simp [nth, Ne.symm h]
    rw [e, nth_wxL hy]
    by_cases h2 : y < x
    · rw [if_pos h2, if_pos (by omega)]
    · rw [if_neg h2, if_neg (by omega)]
theorem wxAt_succ {M P : List (List Int)} {ws : List Int} {r : Int} {j i : Nat} (h : hasB (row P j) r = true) : wxAt M P ws r (j + 1) i = if viS M P ws i j < wxAt M P ws r j i then viS M P ws i j else wxAt M P ws r j i := by rw [wxAt, if_pos h]
/-- what is made so is the least of the ways, and far where there is none -/
theorem wxAt_le {M P : List (List Int)} {ws : List Int} {r : Int} {i : Nat} : ∀ j, wxAt M P ws r j i ≤ 1073741824 ∧ (∀ t, t < j → r ∈ row P t → wxAt M P ws r j i ≤ viS M P ws i t) ∧ (wxAt M P ws r j i = 1073741824 ∨ ∃ t, t < j ∧ r ∈ row P t ∧ wxAt M P ws r j i = viS M P ws i t) := by
  intro j
  induction j with
  | zero => exact ⟨by simp [wxAt], fun t ht => by omega, .inl rfl⟩
  | succ j ih =>
    obtain ⟨h1, h2, h3⟩ := ih
    have h3' : wxAt M P ws r j i = 1073741824 ∨ ∃ t, t < j + 1 ∧ r ∈ row P t ∧ wxAt M P ws r j i = viS M P ws i t := h3.imp_right fun ⟨t, a, b, c⟩ => ⟨t, by omega, b, c⟩
    cases hb : hasB (row P j) r with
    | false =>
      rw [show wxAt M P ws r (j + 1) i = wxAt M P ws r j i by rw [wxAt, hb]; rfl]
      refine ⟨h1, fun t ht hr => ?_, h3'⟩
      by_cases h4 : t = j
      · subst h4; exact absurd hr (hasB_false.1 hb)
      · exact h2 t (by omega) hr
    | true =>
      rw [wxAt_succ hb]
      by_cases h5 : viS M P ws i j < wxAt M P ws r j i
      · rw [if_pos h5]
        refine ⟨by omega, fun t ht hr => ?_, .inr ⟨j, by omega, hasB_true.1 hb, rfl⟩⟩
        by_cases h4 : t = j
        · subst h4; exact Int.le_refl _
        · have := h2 t (by omega) hr; omega
      · rw [if_neg h5]
        refine ⟨h1, fun t ht hr => ?_, h3'⟩
        by_cases h4 : t = j
        · subst h4; omega
        · exact h2 t (by omega) hr

set_option maxHeartbeats 1600000 in
set_option maxRecDepth 100000 in
theorem wnx_any {v vw : Value} {M P : List (List Int)} {ws : List Int} {r : Int} {w0 w : World} [Ext w0 w] (hW : IsWorks w0 v M P) (hw : IsInts w0 vw ws) (h1P : 1 ≤ P.length) (hl : P.length ≤ 1000) (hlw : ws.length = P.length) (hb : ∀ j, j < P.length → 0 ≤ nth ws j ∧ nth ws j ≤ 1000000) (hmv : ∀ i j, i < P.length → j < P.length → 0 ≤ mvC M (row P i) (row P j) ∧ mvC M (row P i) (row P j) ≤ 1000) :
    Calls Tryz.prog 86 #[v, vw, .int .i64 r] w fun e w' => ∃ d m, e = .returned (.slice d (wnxL M P ws r).length m) ∧ Own w' w.heap.size [intRowOf 3 (.slice d (wnxL M P ws r).length m) (wnxL M P ws r)] ∧ Ext w w' := by
  obtain ⟨b, mv, pv, cv, rfl, h0, h1, h2, hM, hP, hC⟩ := hW
  have x1 := (‹Ext w0 w›).cell h1
  obtain ⟨a3, c3, rfl, l3⟩ := hw.form
  obtain ⟨aP, cP, rfl, lP⟩ := hP.form
  obtain ⟨aC, cC, rfl, lC⟩ := hC.form
  replace hb := hid hb
  replace hmv := hid hmv
  replace hlw := hid hlw
  have hcl := hid (show (cosL M P).length = P.length by simp [cosL])
  go_enter Tryz.func86, Tryz.ntmps86
  go_wp2_with fail
  generalize hWW : w.alloc (.cells #[.int .i64 1073741824] 3) = W
  have eW : Ext w W := hWW ▸ inferInstance
  have hfar : IsInts W (.slice (some ⟨w.heap.size, 0, none⟩) ([1073741824] : List Int).length 1) [1073741824] := by
    subst hWW
    exact (Own.litInts (W := w) (B := 0) (e := 3) (xs := [1073741824]) (Nat.zero_le _) (by simp) rfl (by simp) rfl).reads (by unfold Short; simp) (by intro x hx; simp at hx; subst hx; unfold I64; omega)
  have eW0 : Ext w0 W := Ext.trans ‹Ext w0 w› eW
  clear hWW
  refine (sRepeatN_any (w0 := W) (n := ws.length) hfar (by have := hlw.out; omega) (by have := hlw.out; omega)).mono ?_
  rintro e W1 ⟨od, om, rfl, own1, hb1⟩
  rw [List.length_replicate] at own1 ⊢
  have own : Own W1 W.heap.size [⟨3, 1, .slice od ws.length om, ws.length, (wxL M P ws r 0 0).map (Value.int .i64)⟩] := by
    rw [wxL_zero]
    unfold intRowOf at own1
    rw [List.length_replicate] at own1
    exact own1
  clear own1
  have y1 := (Ext.trans eW0 hb1).cell h1
  have hbW : Below W.heap.size W W1 := hb1.below
  go_wp2_with fail
  go_loopw [20] (fun i wr => ∃ j : Nat, j ≤ P.length ∧ i = .int .i64 j ∧ Own wr W.heap.size [⟨3, 1, .slice od ws.length om, ws.length, (wxL M P ws r j 0).map (Value.int .i64)⟩] ∧ Below W.heap.size W wr) (fun i _ => P.length - (intOf i).toNat)
  case atStart => exact ⟨0, by omega, rfl, own, hbW⟩
  case round =>
    obtain ⟨j, hj, rfl, hown, hb0⟩ := hrel
    obtain ⟨wo, rfl⟩ : ∃ x : World, x = wr := ⟨_, rfl⟩
    by_cases hlt : j < P.length
    · have eWo : Ext W wo := ⟨hb0⟩
      have e0o : Ext w0 wo := Ext.trans eW0 eWo
      obtain ⟨b5, o5, d5, m5, rfl, hc5, hr5, _⟩ := hP.at (w' := wo) hlt
      have hr5' : IsInts w0 _ (row P j) := hr5
      cases hh : hasB (row P j) r with
      | false =>
        have hsk := hid (wxL_skip (M := M) (ws := ws) hh)
        go_wp2_with fail
        refine (sContains_any (w0 := w0) hr5').mono ?_
        rintro e w9 ⟨rfl, rfl⟩
        rw [hh]
        replace hh := hid hh
        go_wp2
        go_roundw
        case rel => exact ⟨j + 1, by omega, by go_num, by rw [hsk.out]; exact hown, hb0⟩
        case measure => simp [intOf]; omega
      | true =>
        go_wp2_with fail
        refine (sContains_any (w0 := w0) hr5').mono ?_
        rintro e w9 ⟨rfl, rfl⟩
        rw [hh]
        replace hh := hid hh
        have hfull := hid (wxL_full M P ws r j)
        have hlC : j < (cosL M P).length := by rw [hcl.out]; exact hlt
        have hlW : j < ws.length := by rw [hlw.out]; exact hlt
        go_wp2
        go_loopw [31] (fun i wi => ∃ x : Nat, x ≤ ws.length ∧ i = .int .i64 x ∧ Own wi W.heap.size [⟨3, 1, .slice od ws.length om, ws.length, (wxL M P ws r j x).map (Value.int .i64)⟩] ∧ Below W.heap.size W wi) (fun i _ => ws.length - (intOf i).toNat)
        case atStart => exact ⟨0, by omega, rfl, hown, hb0⟩
        case round =>
          obtain ⟨x, hxl, rfl, hown2, hb3⟩ := hrel
          by_cases hltx : x < ws.length
          · have hxP : x < P.length := by rw [← hlw.out]; exact hltx
            have eWr : Ext W wr := ⟨hb3⟩
            have e0 : Ext w0 wr := Ext.trans eW0 eWr
            have y2 := e0.cell h2
            obtain ⟨g, rfl⟩ := hown2.at hltx
            have hf := hown2.frozenAt x
            have hc := hown2.cellAt (w' := wr) hltx
            have hcx : ((wxL M P ws r j x).map (Value.int .i64)).getD x undef = .int .i64 (wxAt M P ws r j x) := by
              have e := nth_wxL (M := M) (P := P) (r := r) (j := j) (x := x) hltx
              rw [if_neg (by omega)] at e
              rw [← e]
              simp [nth, wxL_length, hltx]
            rw [hcx] at hc
            clear hcx
            have hset := hid (wxL_set (M := M) (P := P) (r := r) (j := j) hltx)
            have hcur := (wxAt_le (M := M) (P := P) (ws := ws) (r := r) (i := x) j).1
            obtain ⟨b4, o4, rfl, hc4⟩ := hw.at (w' := wr) hlW
            obtain ⟨b7, o7, d7, m7, rfl, hc7, hr7, _⟩ := hC.at (w' := wr) hlC
            obtain ⟨hrl, hrn⟩ := cosL_at (M := M) hlt hxP
            rw [hrl] at hr7 hc7
            replace hrl := hid hrl
            obtain ⟨b8, o8, rfl, hc8⟩ := hr7.at (w' := wr) (k := x) (by rw [hrl.out]; exact hxP)
            rw [hrn] at hc8
            clear hrn
            have q1 := hb.out j hlt
            have q2 := hmv.out j x hlt hxP
            have hmin := hid (show wxAt M P ws r (j + 1) x = if nth ws j + mvC M (row P j) (row P x) < wxAt M P ws r j x then nth ws j + mvC M (row P j) (row P x) else wxAt M P ws r j x by rw [wxAt_succ hh.out]; rfl)
            have hlow : -1 ≤ wxAt M P ws r j x := by
              rcases (wxAt_le (M := M) (P := P) (ws := ws) (r := r) (i := x) j).2.2 with h3 | ⟨t, ht, _, h3⟩
              · omega
              · have := hb.out t (by omega)
                have := hmv.out t x (by omega) hxP
                rw [h3, viS]; omega
            generalize wxAt M P ws r j x = cu at *
            generalize mvC M (row P j) (row P x) = mv1 at *
            have hgB := hown2.lt.1
            by_cases hlc : nth ws j + mv1 < cu
            · have hm2 := hid (show wxAt M P ws r (j + 1) x = min cu (nth ws j + mv1) by rw [hmin.out, if_pos hlc]; omega)
              clear hmin
              go_upto_region 9 with fail
              go_still_tail 23, (by kernel_rfl)
              change wpList _ _ _ _ _ wr.drew
              have hfd : wr.drew.frozen? ⟨g, x, none⟩ = false := hf
              have hcd : wr.drew.cell? ⟨g, x, none⟩ = some (.int .i64 cu) := hc
              go_wp2
              go_roundw
              case rel =>
                refine ⟨x + 1, by omega, by go_num, ?_, hb3.drew.setCell hgB _⟩
                have h := (hown2.ext (w' := wr.drew)).set x (.int .i64 (wxAt M P ws r (j + 1) x))
                rw [hset.out] at h
                rw [hm2.out] at h
                exact h
              case measure => simp [intOf]; omega
            · have hm2 := hid (show wxAt M P ws r (j + 1) x = min cu (nth ws j + mv1) by rw [hmin.out, if_neg hlc]; omega)
              clear hmin
              go_upto_region 9 with fail
              go_still_tail 23, (by kernel_rfl)
              change wpList _ _ _ _ _ wr.drew
              have hfd : wr.drew.frozen? ⟨g, x, none⟩ = false := hf
              have hcd : wr.drew.cell? ⟨g, x, none⟩ = some (.int .i64 cu) := hc
              go_wp2
              go_roundw
              case rel =>
                refine ⟨x + 1, by omega, by go_num, ?_, hb3.drew.setCell hgB _⟩
                have h := (hown2.ext (w' := wr.drew)).set x (.int .i64 (wxAt M P ws r (j + 1) x))
                rw [hset.out] at h
                rw [hm2.out] at h
                exact h
              case measure => simp [intOf]; omega
          · have : x = ws.length := by omega
            subst this
            rw [hfull.out] at hown2
            go_wp2
            go_roundw
            case rel => exact ⟨j + 1, by omega, by go_num, hown2, hb3⟩
            case measure => simp [intOf]; omega
    · have : j = P.length := by omega
      subst this
      go_wp2
      go_ret
      refine ⟨od, om, by rw [wnxL, wxL_length]; rfl, ?_, ⟨eW.below.trans (hb0.mono eW.size)⟩⟩
      unfold intRowOf
      rw [wnxL, wxL_length]
      exact hown.mono eW.size
end Go.Proofs.YtllfchcocgdcjaaGreat

/- The reference's next work list and the program's are one. -/
namespace Go.Proofs.YtllfchcocgdcjaaGreat
open Go.RowKit

--PURE
/-- the reference's least over the first servers; -1 ahead of the first -/
def snAt (M P : List (List Int)) (ws : List Int) (r : Int) (i : Nat) : Nat → Int
  | 0 => -1
  | s + 1 => if snAt M P ws r i s < 0 ∨ swS M P ws r i s < snAt M P ws r i s then swS M P ws r i s else snAt M P ws r i s
theorem snAt_le {M P : List (List Int)} {ws : List Int} {r : Int} {i : Nat} : ∀ k, 1 ≤ k → (∀ s, s < k → 0 ≤ swS M P ws r i s) → (∀ s, s < k → snAt M P ws r i k ≤ swS M P ws r i s) ∧ ∃ s, s < k ∧ snAt M P ws r i k = swS M P ws r i s := by
  intro k
  induction k with
  | zero => intro h; omega
  | succ k ih =>
    intro _ h0
    by_cases hk : k = 0
    · subst hk
      have e : snAt M P ws r i (0 + 1) = swS M P ws r i 0 := by rw [snAt, if_pos (.inl (by simp [snAt]))]
      exact ⟨fun s hs => by rw [e, show s = 0 by omega]; exact Int.le_refl _, 0, by omega, e⟩
    · obtain ⟨h1, s1, h2, h3⟩ := ih (by omega) (fun s hs => h0 s (by omega))
      have h4 := h0 s1 (by omega)
      by_cases h5 : swS M P ws r i k < snAt M P ws r i k
      · have e : snAt M P ws r i (k + 1) = swS M P ws r i k := by rw [snAt, if_pos (.inr h5)]
        refine ⟨fun s hs => ?_, k, by omega, e⟩
        by_cases h6 : s = k
        · rw [e, h6]; exact Int.le_refl _
        · have := h1 s (by omega)
          omega
      · have e : snAt M P ws r i (k + 1) = snAt M P ws r i k := by rw [snAt, if_neg (by omega)]
        refine ⟨fun s hs => ?_, s1, by omega, by rw [e, h3]⟩
        by_cases h6 : s = k
        · rw [e, h6]; omega
        · have := h1 s (by omega)
          omega
theorem next_eq {M : List (List Int)} {n k i : Nat} {r : Int} {ws : List Int} (hd : Dst M n) (h1 : 1 ≤ k) (hk : k ≤ 3) (hw : LipW M (confs n k 0) ws) (hb : ∀ j, j < (confs n k 0).length → 0 ≤ nth ws j ∧ nth ws j ≤ 1000000) (hc : ∀ x y : Nat, x < n → y < n → 0 ≤ cell M x y ∧ cell M x y ≤ 99) (hi : i < (confs n k 0).length) (hr : 0 ≤ r ∧ r < (n : Int)) :
    snAt M (confs n k 0) ws r i k = wxAt M (confs n k 0) ws r (confs n k 0).length i := by
  have hin : ∀ s, s < k → 0 ≤ swS M (confs n k 0) ws r i s ∧ swS M (confs n k 0) ws r i s ≤ 1000099 := by
    intro s hs
    obtain ⟨g1, g2, g3⟩ := row_conf hi
    obtain ⟨hm, _⟩ := sw_conf hi hs hr
    have h2 := hb _ (atR_lt hm).1
    have h3 := g2 _ (nth_mem (show s < (row (confs n k 0) i).length by omega))
    have h4 := hc (nth (row (confs n k 0) i) s).toNat r.toNat (by omega) (by omega)
    unfold swS
    omega
  obtain ⟨h2, s, hs, h3⟩ := snAt_le k h1 (fun s hs => (hin s hs).1)
  obtain ⟨h4, h5, h6⟩ := wxAt_le (M := M) (P := confs n k 0) (ws := ws) (r := r) (i := i) (confs n k 0).length
  obtain ⟨j, hj, hrj, hle⟩ := sw_via (ws := ws) hd hk hi hs hr
  have h7 := h5 j hj hrj
  have h8 := hin s hs
  rcases h6 with h6 | ⟨t, ht, hrt, h6⟩
  · omega
  · obtain ⟨s', hs', h9⟩ := via_sw hd hk hw hi ht hrt
    have := h2 s' hs'
    omega
end Go.Proofs.YtllfchcocgdcjaaGreat

/- Plain law: work lists stay good; the choice of the work function algorithm. -/
namespace Go.Proofs.YtllfchcocgdcjaaGreat
open Go.RowKit

--PURE
/-- a work list with values up to a limit -/
def GoodW (M P : List (List Int)) (ws : List Int) (L : Int) : Prop := LipW M P ws ∧ ∀ j, j < P.length → 0 ≤ nth ws j ∧ nth ws j ≤ L
theorem GoodW.mono {M P : List (List Int)} {ws : List Int} {L L' : Int} (h : GoodW M P ws L) (hl : L ≤ L') : GoodW M P ws L' := ⟨h.1, fun j hj => ⟨(h.2 j hj).1, Int.le_trans (h.2 j hj).2 hl⟩⟩
theorem wnx_at {M P : List (List Int)} {ws : List Int} {r : Int} {i : Nat} (h : i < ws.length) : nth (wnxL M P ws r) i = wxAt M P ws r P.length i := by rw [wnxL, nth_wxL h, if_neg (by omega)]
theorem wnxL_len {M P : List (List Int)} {ws : List Int} {r : Int} : (wnxL M P ws r).length = ws.length := wxL_length _ _ _ _ _ _
theorem wnx_way {M : List (List Int)} {n k i : Nat} {r L : Int} {ws : List Int} (hd : Dst M n) (h1 : 1 ≤ k) (hk : k ≤ 3) (hg : GoodW M (confs n k 0) ws L) (hL : L ≤ 1000000) (hi : i < (confs n k 0).length) (hr : 0 ≤ r ∧ r < (n : Int)) :
    (∀ t, t < (confs n k 0).length → r ∈ row (confs n k 0) t → wxAt M (confs n k 0) ws r (confs n k 0).length i ≤ viS M (confs n k 0) ws i t) ∧
    ∃ t, t < (confs n k 0).length ∧ r ∈ row (confs n k 0) t ∧ wxAt M (confs n k 0) ws r (confs n k 0).length i = viS M (confs n k 0) ws i t := by
  obtain ⟨h4, h5, h6⟩ := wxAt_le (M := M) (P := confs n k 0) (ws := ws) (r := r) (i := i) (confs n k 0).length
  refine ⟨h5, ?_⟩
  rcases h6 with h6 | h6
  · obtain ⟨j, hj, hrj, hle⟩ := sw_via (ws := ws) (s := 0) hd hk hi (by omega) hr
    have h7 := h5 j hj hrj
    obtain ⟨g1, g2, g3⟩ := row_conf hi
    obtain ⟨hm, _⟩ := sw_conf (s := 0) hi (by omega) hr
    have h8 := hg.2 _ (atR_lt hm).1
    have h9 := g2 _ (nth_mem (show 0 < (row (confs n k 0) i).length by omega))
    have h10 := hd.pos (nth (row (confs n k 0) i) 0).toNat r.toNat (by omega) (by omega)
    unfold swS at hle
    omega
  · exact h6
/-- one more request: the work list is good, and its values are not much greater -/
theorem wnx_good {M : List (List Int)} {n k : Nat} {r L : Int} {ws : List Int} (hd : Dst M n) (h1 : 1 ≤ k) (hk : k ≤ 3) (hg : GoodW M (confs n k 0) ws L) (hL : L ≤ 1000000) (hr : 0 ≤ r ∧ r < (n : Int)) :
    GoodW M (confs n k 0) (wnxL M (confs n k 0) ws r) (L + 198) ∧ ∀ i, i < (confs n k 0).length → nth ws i ≤ nth (wnxL M (confs n k 0) ws r) i := by
  have hlen := hg.1.1
  have hge : ∀ i, i < (confs n k 0).length → nth ws i ≤ nth (wnxL M (confs n k 0) ws r) i := fun i hi => by
    obtain ⟨_, t, ht, _, h6⟩ := wnx_way hd h1 hk hg hL hi hr
    rw [wnx_at (by omega), h6]
    exact via_ge hd hk hg.1 hi ht
  refine ⟨⟨⟨by rw [wnxL_len, hlen], fun i q hi hq => ?_⟩, fun i hi => ⟨?_, ?_⟩⟩, hge⟩
  · obtain ⟨h5, _⟩ := wnx_way hd h1 hk hg hL hi hr
    obtain ⟨_, t, ht, hrt, h6⟩ := wnx_way hd h1 hk hg hL hq hr
    rw [wnx_at (by omega), wnx_at (by omega), h6]
    have h7 := h5 t ht hrt
    have h8 := via_lip (ws := ws) hd hk hi hq ht
    obtain ⟨g1, g2, g3⟩ := row_conf hi
    obtain ⟨f1, f2, f3⟩ := row_conf hq
    have := mvC_symm hd g2 f2 (by rw [g1, f1]) (by omega)
    omega
  · have := hge i hi
    have := (hg.2 i hi).1
    omega
  · obtain ⟨h5, _⟩ := wnx_way hd h1 hk hg hL hi hr
    obtain ⟨j, hj, hrj, hle⟩ := sw_via (ws := ws) (s := 0) hd hk hi (by omega) hr
    obtain ⟨g1, g2, g3⟩ := row_conf hi
    obtain ⟨hm, _⟩ := sw_conf (s := 0) hi (by omega) hr
    obtain ⟨hlt, hrow⟩ := atR_lt hm
    have hlip := hg.1.2 _ i hlt hi
    rw [hrow] at hlip
    have hpts : Pts n (swC (confs n k 0) r i 0) := (g2.set hr).perm (sortL_perm _)
    have h9 := g2 _ (nth_mem (show 0 < (row (confs n k 0) i).length by omega))
    have h10 := hd.pos (nth (row (confs n k 0) i) 0).toNat r.toNat (by omega) (by omega)
    have hset := mvC_set hd (s := 0) (r := r) g2 hr (by omega) (by omega)
    have hp := mvC_permR hd (sortL_perm ((row (confs n k 0) i).set 0 r)).symm g2 (g2.set hr) (by simp) (by omega)
    have hsy := mvC_symm hd g2 hpts (by rw [swC, sortL_len, List.length_set]) (by omega)
    have h7 := h5 j hj hrj
    have h8 := (hg.2 i hi).2
    rw [wnx_at (by omega)]
    unfold swS at hle
    unfold swC at *
    omega
/-- the work list of the empty sequence -/
theorem start_good {M : List (List Int)} {n k : Nat} {a : List Int} (hd : Dst M n) (hk : k ≤ 3) (ha : a ∈ confs n k 0) : GoodW M (confs n k 0) ((confs n k 0).map fun b => mvC M a b) 297 := by
  obtain ⟨h1, h2, h3⟩ := confs_iff.1 ha
  have hpa : Pts n a := fun x hx => by have := h3 x hx; omega
  have hnth : ∀ i, i < (confs n k 0).length → nth ((confs n k 0).map fun b => mvC M a b) i = mvC M a (row (confs n k 0) i) := fun i hi => by simp [nth, row, hi]
  refine ⟨⟨by simp, fun i j hi hj => ?_⟩, fun j hj => ?_⟩
  · obtain ⟨g1, g2, g3⟩ := row_conf hi
    obtain ⟨f1, f2, f3⟩ := row_conf hj
    rw [hnth i hi, hnth j hj]
    have := mvC_tri hd hpa f2 g2 (by rw [h1, f1]) (by rw [f1, g1]) (by omega)
    have := mvC_symm hd g2 f2 (by rw [g1, f1]) (by omega)
    omega
  · obtain ⟨f1, f2, f3⟩ := row_conf hj
    rw [hnth j hj]
    have := mvC_in hd hpa f2 (by rw [h1, f1]) (by omega)
    omega
theorem work_good {M : List (List Int)} {P : List (List Int)} {ws : List Int} (h : workB M P ws = true) : GoodW M P ws 99999 := by
  simp only [workB, Bool.and_eq_true, decide_eq_true_eq] at h
  obtain ⟨h1, h2, h3⟩ := h
  simp only [lipB, decide_eq_true_eq] at h3
  refine ⟨⟨h1, fun i j hi hj => h3 i (by omega) j (by omega)⟩, fun j hj => ?_⟩
  have := belowB_at h2 (k := j) (by omega)
  omega

/-- the s-th server moved to r; the sum -/
def svX (a : List Int) (r : Int) (s : Nat) : List Int := sortL (a.set s r)
def svN (M P : List (List Int)) (nx a : List Int) (r : Int) (s : Nat) : Int := nth nx (atR P (svX a r s)) + cell M (nth a s).toNat r.toNat
/-- the best one of the first servers, its cost, its sum -/
def svT (M P : List (List Int)) (nx a : List Int) (r : Int) : Nat → List Int × Int × Int
  | 0 => ([], 0, 1073741824)
  | s + 1 => if svN M P nx a r s < (svT M P nx a r s).2.2 ∨ (svN M P nx a r s = (svT M P nx a r s).2.2 ∧ lexC (svX a r s) (svT M P nx a r s).1 < 0) then (svX a r s, cell M (nth a s).toNat r.toNat, svN M P nx a r s) else svT M P nx a r s
def svC (M P : List (List Int)) (nx a : List Int) (r : Int) : List Int := if hasB a r then a else (svT M P nx a r a.length).1
def svK (M P : List (List Int)) (nx a : List Int) (r : Int) : Int := if hasB a r then 0 else (svT M P nx a r a.length).2.1
theorem svT_at {M P : List (List Int)} {nx a : List Int} {r : Int} : ∀ {s : Nat}, (∀ t, t < s → svN M P nx a r t < 1073741824) → 1 ≤ s → ∃ t, t < s ∧ svT M P nx a r s = (svX a r t, cell M (nth a t).toNat r.toNat, svN M P nx a r t) := by
  intro s
  induction s with
  | zero => intro _ h; omega
  | succ s ih =>
    intro h _
    rw [svT]
    split
    · exact ⟨s, by omega, rfl⟩
    · rename_i hn
      by_cases hs : s = 0
      · subst hs
        exact absurd (.inl (h 0 (by omega))) hn
      · obtain ⟨t, ht, h2⟩ := ih (fun t ht => h t (by omega)) (by omega)
        exact ⟨t, by omega, h2⟩
theorem set_conf {n k s : Nat} {r : Int} {a : List Int} (ha : a ∈ confs n k 0) (hs : s < k) (hr : 0 ≤ r ∧ r < (n : Int)) : svX a r s ∈ confs n k 0 ∧ r ∈ svX a r s := by
  obtain ⟨h1, h2, h3⟩ := confs_iff.1 ha
  have hpa : Pts n a := fun x hx => by have := h3 x hx; omega
  refine ⟨confs_iff.2 ⟨by rw [svX, sortL_len, List.length_set, h1], sortL_asc _, fun x hx => ?_⟩, ?_⟩
  · have h4 := (sortL_perm _).mem_iff.1 hx
    have := hpa.set (s := s) hr x h4
    omega
  · refine (sortL_perm _).mem_iff.2 ?_
    rw [List.mem_iff_getElem]
    exact ⟨s, by rw [List.length_set, h1]; exact hs, by simp⟩
theorem svN_in {M : List (List Int)} {n k s : Nat} {r L : Int} {nx a : List Int} (hd : Dst M n) (hg : GoodW M (confs n k 0) nx L) (ha : a ∈ confs n k 0) (hs : s < k) (hr : 0 ≤ r ∧ r < (n : Int)) : 0 ≤ svN M (confs n k 0) nx a r s ∧ svN M (confs n k 0) nx a r s ≤ L + 99 := by
  obtain ⟨hm, _⟩ := set_conf ha hs hr
  obtain ⟨h1, h2, h3⟩ := confs_iff.1 ha
  have h4 := hg.2 _ (atR_lt hm).1
  have h5 := h3 _ (nth_mem (show s < a.length by omega))
  have h6 := hd.pos (nth a s).toNat r.toNat (by omega) (by omega)
  unfold svN
  omega
/-- the choice is a configuration with the point, and the cost is a distance -/
theorem sv_conf {M : List (List Int)} {n k : Nat} {r L : Int} {nx a : List Int} (hd : Dst M n) (h1k : 1 ≤ k) (hg : GoodW M (confs n k 0) nx L) (hL : L ≤ 2000000) (ha : a ∈ confs n k 0) (hr : 0 ≤ r ∧ r < (n : Int)) :
    svC M (confs n k 0) nx a r ∈ confs n k 0 ∧ r ∈ svC M (confs n k 0) nx a r ∧ 0 ≤ svK M (confs n k 0) nx a r ∧ svK M (confs n k 0) nx a r ≤ 99 := by
  obtain ⟨h1, h2, h3⟩ := confs_iff.1 ha
  cases hh : hasB a r with
  | true =>
    rw [svC, svK, hh]
    exact ⟨ha, hasB_true.1 hh, by simp, by simp⟩
  | false =>
    rw [svC, svK, hh]
    obtain ⟨t, ht, h4⟩ := svT_at (M := M) (P := confs n k 0) (nx := nx) (a := a) (r := r) (s := a.length) (fun t ht => by have := (svN_in hd hg ha (s := t) (by omega) hr).2; omega) (by omega)
    obtain ⟨h5, h6⟩ := set_conf ha (s := t) (by omega) hr
    have h7 := h3 _ (nth_mem ht)
    have h8 := hd.pos (nth a t).toNat r.toNat (by omega) (by omega)
    simp only [h4]
    exact ⟨h5, h6, h8.1, h8.2⟩
/-- the program's moved configuration is the reference's -/
theorem mov_sv {a : List Int} {r : Int} {s : Nat} (hs : s < a.length) : movL a (nth a s) r = svX a r s := by
  have hm := nth_mem hs
  obtain ⟨h1, h2, h3⟩ := ixOf_in hm
  unfold movL svX
  refine asc_uniq (sortL_asc _) (sortL_asc _) ((sortL_perm _).trans (List.Perm.trans ?_ (sortL_perm _).symm))
  have hi : (ixOf a (nth a s)).toNat < a.length := by omega
  generalize (ixOf a (nth a s)).toNat = i at *
  have e1 := perm_set a i r hi
  have e2 := perm_set a s r hs
  refine e1.trans (List.Perm.trans (List.Perm.cons r ?_) e2.symm)
  have f1 := perm_set a i a[i] hi
  have f2 := perm_set a s a[s] hs
  rw [List.set_getElem_self] at f1 f2
  have e : a[i] = a[s] := by simpa [nth, hi, hs] using h3
  have g := f1.symm.trans f2
  rw [e] at g
  exact (List.perm_cons _).1 g
/-- the reference's least: -1 ahead of the first -/
def svL (M P : List (List Int)) (nx a : List Int) (r : Int) (s : Nat) : Int := if s = 0 then -1 else (svT M P nx a r s).2.2
def svQ (M P : List (List Int)) (nx a : List Int) (r : Int) (s : Nat) : Prop := svN M P nx a r s < (svT M P nx a r s).2.2 ∨ (svN M P nx a r s = (svT M P nx a r s).2.2 ∧ lexC (svX a r s) (svT M P nx a r s).1 < 0)
theorem svT_yes {M P : List (List Int)} {nx a : List Int} {r : Int} {s : Nat} (h : svN M P nx a r s < (svT M P nx a r s).2.2 ∨ (svN M P nx a r s = (svT M P nx a r s).2.2 ∧ lexC (svX a r s) (svT M P nx a r s).1 < 0)) : svT M P nx a r (s + 1) = (svX a r s, cell M (nth a s).toNat r.toNat, svN M P nx a r s) := by rw [svT, if_pos h]
theorem svT_no {M P : List (List Int)} {nx a : List Int} {r : Int} {s : Nat} (h : ¬ (svN M P nx a r s < (svT M P nx a r s).2.2 ∨ (svN M P nx a r s = (svT M P nx a r s).2.2 ∧ lexC (svX a r s) (svT M P nx a r s).1 < 0))) : svT M P nx a r (s + 1) = svT M P nx a r s := by rw [svT, if_neg h]

/-- the greatest number of a list -/
def grtL (xs : List Int) : Int := xs.foldl max 0
theorem grtL_snoc (xs : List Int) (x : Int) : grtL (xs ++ [x]) = max (grtL xs) x := by simp [grtL]
theorem grtL_ge : ∀ (xs : List Int) (b : Int), b ≤ xs.foldl max b ∧ ∀ x ∈ xs, x ≤ xs.foldl max b
  | [], b => ⟨Int.le_refl _, by simp⟩
  | y :: xs, b => by
    obtain ⟨h1, h2⟩ := grtL_ge xs (max b y)
    refine ⟨by simp only [List.foldl_cons]; omega, fun x hx => ?_⟩
    simp only [List.foldl_cons]
    rcases List.mem_cons.1 hx with rfl | hx
    · omega
    · exact h2 x hx
theorem grtL_or : ∀ (xs : List Int) (b : Int), xs.foldl max b = b ∨ xs.foldl max b ∈ xs
  | [], b => .inl rfl
  | y :: xs, b => by
    simp only [List.foldl_cons]
    rcases grtL_or xs (max b y) with h | h
    · rw [h]
      by_cases hb : b ≤ y
      · exact .inr (by rw [show max b y = y by omega]; simp)
      · exact .inl (by omega)
    · exact .inr (List.mem_cons_of_mem _ h)
theorem grtL_below {xs : List Int} (h : ∀ x ∈ xs, 0 ≤ x) : decide (99999 < grtL xs) = !belowB 100000 xs := by
  cases hb : belowB 100000 xs with
  | true =>
    have : ¬ 99999 < grtL xs := by
      intro h'
      rcases grtL_or xs 0 with h1 | h1
      · rw [grtL, h1] at h'; omega
      · obtain ⟨k, hk, h2⟩ := mem_iff_nth.1 h1
        have := belowB_at hb hk
        rw [grtL] at h'
        omega
    simp [this]
  | false =>
    have : 99999 < grtL xs := by
      by_cases h' : 99999 < grtL xs
      · exact h'
      · exfalso
        have : belowB 100000 xs = true := belowB_of fun k hk => inB_true.2 ⟨h _ (nth_mem hk), by have := (grtL_ge xs 0).2 _ (nth_mem hk); rw [grtL] at h'; omega⟩
        rw [this] at hb
        cases hb
    simp [this]
theorem grtL_in {xs : List Int} {b : Int} (h0 : 0 ≤ b) (h : ∀ x ∈ xs, x ≤ b) : 0 ≤ grtL xs ∧ grtL xs ≤ b := by
  refine ⟨(grtL_ge xs 0).1, ?_⟩
  rcases grtL_or xs 0 with h1 | h1
  · rw [grtL, h1]; exact h0
  · exact h _ h1
theorem confs_mv {M : List (List Int)} {k : Nat} (hd : Dst M M.length) (hk : k ≤ 3) : ∀ i j, i < (confs M.length k 0).length → j < (confs M.length k 0).length → 0 ≤ mvC M (row (confs M.length k 0) i) (row (confs M.length k 0) j) ∧ mvC M (row (confs M.length k 0) i) (row (confs M.length k 0) j) ≤ 1000 := fun i j hi hj => by
  obtain ⟨g1, g2, g3⟩ := row_conf hi
  obtain ⟨f1, f2, f3⟩ := row_conf hj
  have := mvC_in hd g2 f2 (by rw [g1, f1]) (by omega)
  omega
theorem confs_pos {n k : Nat} (hn : 1 ≤ n) : 1 ≤ (confs n k 0).length := by
  have : List.replicate k (0 : Int) ∈ confs n k 0 := confs_iff.2 ⟨by simp, by unfold Asc; exact List.pairwise_replicate.2 (.inr (Int.le_refl _)), fun x hx => by rw [List.eq_of_mem_replicate hx]; omega⟩
  exact List.length_pos_of_mem this
theorem cfg_conf {n k : Nat} {a : List Int} (h : cfgB n a = true) (hk : a.length = k) : a ∈ confs n k 0 := by
  obtain ⟨_, h2, h3⟩ := cfgB_iff.1 h
  exact confs_iff.2 ⟨hk, h3, fun x hx => by have := h2 x hx; omega⟩
end Go.Proofs.YtllfchcocgdcjaaGreat

/- One point of a configuration in the place of another one, in order: the reference's. -/
namespace Go.Proofs.YtllfchcocgdcjaaGreat
open Go.RowKit

end Go.Proofs.YtllfchcocgdcjaaGreat

/- The configurations, of the reference. -/
namespace Go.Proofs.YtllfchcocgdcjaaGreat
open Go.RowKit

theorem itTo_len {n i : Nat} (hn : n ≤ 6) (hi : i ≤ 3) : (itTo n i).length ≤ 216 := by
  have h2 := confs_len hn i 0
  rw [← itTo_confs] at h2
  have h3 : 6 ^ i ≤ 6 ^ 3 := Nat.pow_le_pow_right (by omega) hi
  omega
theorem itTo_rows {n i : Nat} (hn : n ≤ 6) (hi : i ≤ 3) : ShortRows (itTo n i).length ∧ (∀ r ∈ itTo n i, Short r.length) ∧ ∀ r ∈ itTo n i, ∀ x ∈ r, I64 x := by
  rw [itTo_confs]; exact confs_rows hn hi
theorem nth_none {xs : List Int} {k : Nat} (h : xs.length ≤ k) : nth xs k = 0 := by simp [nth, h]
theorem frm_last {n : Nat} {r : List Int} (h : ∀ x ∈ r, 0 ≤ x ∧ x < (n : Int)) : (frm r : Int) = nth r (r.length - 1) := by
  unfold frm
  by_cases h0 : r.length - 1 < r.length
  · have := h _ (nth_mem h0); omega
  · rw [nth_none (by omega)]; rfl
theorem frm_in {n : Nat} {r : List Int} (h : ∀ x ∈ r, 0 ≤ x ∧ x < (n : Int)) : frm r ≤ n := by
  have e := frm_last h
  by_cases h0 : r.length - 1 < r.length
  · have := h _ (nth_mem h0); omega
  · rw [nth_none (by omega)] at e; omega

end Go.Proofs.YtllfchcocgdcjaaGreat

