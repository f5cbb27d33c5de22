/- The algorithms that are made row by row: the reference's and the program's. Written by made.py. -/
import Derived.Test.YtkdbgobhgnjoaabGreedy
namespace Go.Proofs.Ytkdbgobhgnjoaab
open Go.RowKit

def byRow (f : Nat → Nat → Int) (s r : Nat) : List Int := (List.range r).map fun r => f s r
def byTo (f : Nat → Nat → Int) (m s : Nat) : List (List Int) := (List.range s).map fun s => byRow f s m
theorem byRow_succ (f : Nat → Nat → Int) (s r : Nat) : byRow f s (r + 1) = byRow f s r ++ [f s r] := by simp [byRow, List.range_succ]
theorem byTo_succ (f : Nat → Nat → Int) (m s : Nat) : byTo f m (s + 1) = byTo f m s ++ [byRow f s m] := by simp [byTo, List.range_succ]
theorem byRow_length (f : Nat → Nat → Int) (s r : Nat) : (byRow f s r).length = r := by simp [byRow]
theorem byTo_length (f : Nat → Nat → Int) (m s : Nat) : (byTo f m s).length = s := by simp [byTo]

theorem Own.formVals {w : World} {B e : Nat} {v : Value} {vs : List Value} {R : List Row} (h : Own w B (valRowOf e v vs :: R)) : ∃ d m, v = .slice d vs.length m := h.form
/-- the new row goes behind the others -/
theorem rows_turn {w : World} {B e1 e2 : Nat} {v rv : Value} {vs : List Value} {M : List (List Int)} {xs : List Int} (h : Own w B (intRowOf e2 rv xs :: rowsOf e1 e2 v vs M)) :
    Own w B (⟨e1, 1, v, vs.length, vs⟩ :: (List.zipWith (intRowOf e2) vs M ++ [intRowOf e2 rv xs])) :=
  h.perm (((List.perm_append_singleton (intRowOf e2 rv xs) (List.zipWith (intRowOf e2) vs M)).cons _).trans (List.Perm.swap _ _ _))
theorem rows_snoc {w : World} {B e1 e2 : Nat} {v rv : Value} {vs : List Value} {M : List (List Int)} {xs : List Int} (h : Own w B (⟨e1, 1, v, vs.length + 1, vs ++ [rv]⟩ :: (List.zipWith (intRowOf e2) vs M ++ [intRowOf e2 rv xs]))) (hl : vs.length = M.length) :
    Own w B (rowsOf e1 e2 v (vs ++ [rv]) (M ++ [xs])) := by
  unfold rowsOf valRowOf
  rw [List.zipWith_append hl, List.length_append]
  exact h

def madeAt (M S : List (List Int)) (lz : Bool) (s r : Nat) : Int := if lz = true ∧ 0 ≤ cell S r s then (s : Int) else greedyAt M S s r
def madeL (M S : List (List Int)) (lz : Bool) : List (List Int) := byTo (madeAt M S lz) S.length M.length

set_option maxHeartbeats 1600000 in
set_option maxRecDepth 100000 in
theorem l8Made_any {v1 v2 : Value} {M S : List (List Int)} {lz : Bool} {w0 w : World} [Ext w0 w] (hM : IsRows w0 v1 M) (hS : IsRows w0 v2 S) (hp : probB M S = true) :
    Calls Try.prog 76 #[.agg #[v1, v2], .bool lz] w fun e w' => ∃ d m vs, e = .returned (.slice d (madeL M S lz).length m) ∧ vs.length = (madeL M S lz).length ∧ Own w' w.heap.size (rowsOf 29 3 (.slice d (madeL M S lz).length m) vs (madeL M S lz)) ∧ Ext w w' := by
  have hM' := hM
  have hS' := hS
  obtain ⟨a1, c1, rfl, l1⟩ := hM.form
  obtain ⟨a2, c2, rfl, l2⟩ := hS.form
  have hn := hid (probB_len hp)
  replace hp := hid hp
  obtain ⟨f, hf⟩ : ∃ f, f = madeAt M S lz := ⟨_, rfl⟩
  have hres : madeL M S lz = byTo f S.length M.length := by rw [hf]; rfl
  rw [hres]
  clear hres
  replace hf := hid hf
  go_enter Try.func76, Try.ntmps76
  go_upto_region 2 with fail
  generalize hW : (w.alloc (.cells #[.slice a1 M.length c1, .slice a2 S.length c2] 26)).alloc (.cells #[] 29) = W
  have eW : Ext w W := hW ▸ inferInstance
  have x0 : W.cell? ⟨w.heap.size, 0, none⟩ = some (.slice a1 M.length c1) := by subst hW; go_simp
  have x1 : W.cell? ⟨w.heap.size, 1, none⟩ = some (.slice a2 S.length c2) := by subst hW; go_simp
  have hB1 : w.heap.size + 1 ≤ W.heap.size := by subst hW; simp
  have own0 : Own W (w.heap.size + 1) (rowsOf 29 3 (.slice (some ⟨w.heap.size + 1, 0, none⟩) 0 0) [] []) := by
    subst hW
    have h := (Own.nil (w.alloc (.cells #[.slice a1 M.length c1, .slice a2 S.length c2] 26)) (w.heap.size + 1)).lit 29 1 0 #[] (by simp) (by unfold maxLen; omega) rfl
    rw [show (w.alloc (.cells #[.slice a1 M.length c1, .slice a2 S.length c2] 26)).heap.size = w.heap.size + 1 by simp] at h
    exact h
  clear hW
  go_wp2
  go_loopw [5, 6] (fun v i wr => ∃ s : Nat, ∃ vs : List Value, s ≤ M.length ∧ i = .int .i64 s ∧ vs.length = s ∧ Own wr (w.heap.size + 1) (rowsOf 29 3 v vs (byTo f S.length s)) ∧ Below (w.heap.size + 1) W wr) (fun _ i _ => M.length - (intOf i).toNat)
  case atStart => exact ⟨0, [], by omega, rfl, rfl, own0, Below.refl _ _⟩
  case round =>
    obtain ⟨s, vs, hs, rfl, hvs, hown, hb0⟩ := hrel
    obtain ⟨wo, rfl⟩ : ∃ x : World, x = wr := ⟨_, rfl⟩
    obtain ⟨vd, vm, rfl⟩ := Own.formVals (e := 29) (vs := vs) hown
    have hvl : vs.length ≤ M.length := by omega
    replace hvs := hid hvs
    have hb : Ext w wo := ⟨eW.below.trans (hb0.mono (by omega))⟩
    have y0 : wo.cell? ⟨w.heap.size, 0, none⟩ = some (.slice a1 M.length c1) := (hb0.cell (p := ⟨w.heap.size, 0, none⟩) (by simp)).trans x0
    have y1 : wo.cell? ⟨w.heap.size, 1, none⟩ = some (.slice a2 S.length c2) := (hb0.cell (p := ⟨w.heap.size, 1, none⟩) (by simp)).trans x1
    by_cases hlt : s < M.length
    · have hsuccT := hid (byTo_succ f S.length s)
      have hBo : w.heap.size + 1 ≤ wo.heap.size := by have := hb0.size; omega
      have hown1 : Own (wo.alloc (.cells #[] 3)) (w.heap.size + 1) (intRowOf 3 (.slice (some ⟨wo.heap.size, 0, none⟩) ([] : List Int).length 0) (byRow f s 0) :: rowsOf 29 3 (.slice vd vs.length vm) vs (byTo f S.length s)) :=
        hown.lit 3 1 0 #[] hBo (by unfold maxLen; omega) rfl
      have hb1 : Below (w.heap.size + 1) W (wo.alloc (.cells #[] 3)) := hb0.alloc hBo _
      generalize hT : byTo f S.length s = T at *
      replace hT := hid hT
      go_upto_region 6 with fail
      generalize wo.alloc (.cells #[] 3) = wp at *
      have z0 : wp.cell? ⟨w.heap.size, 0, none⟩ = some (.slice a1 M.length c1) := (hb1.cell (p := ⟨w.heap.size, 0, none⟩) (by simp)).trans x0
      have z1 : wp.cell? ⟨w.heap.size, 1, none⟩ = some (.slice a2 S.length c2) := (hb1.cell (p := ⟨w.heap.size, 1, none⟩) (by simp)).trans x1
      go_wp2
      go_loopw [7, 8] (fun v i wi => ∃ r : Nat, r ≤ S.length ∧ i = .int .i64 r ∧ Own wi (w.heap.size + 1) (intRowOf 3 v (byRow f s r) :: rowsOf 29 3 (.slice vd vs.length vm) vs T) ∧ Below (w.heap.size + 1) W wi) (fun _ i _ => S.length - (intOf i).toNat)
      case atStart => exact ⟨0, by omega, rfl, hown1, hb1⟩
      case round =>
        obtain ⟨r, hr, rfl, hown2, hb2⟩ := hrel
        obtain ⟨rd, rm, rfl⟩ := hown2.formInts
        have hrl : (byRow f s r).length ≤ S.length := by rw [byRow_length]; omega
        have eWr : Ext w wr := ⟨eW.below.trans (hb2.mono (by omega))⟩
        have e0 : Ext w0 wr := Ext.trans ‹Ext w0 w› eWr
        have u0 : wr.cell? ⟨w.heap.size, 0, none⟩ = some (.slice a1 M.length c1) := (hb2.cell (p := ⟨w.heap.size, 0, none⟩) (by simp)).trans x0
        have u1 : wr.cell? ⟨w.heap.size, 1, none⟩ = some (.slice a2 S.length c2) := (hb2.cell (p := ⟨w.heap.size, 1, none⟩) (by simp)).trans x1
        have hB2 : w.heap.size + 1 ≤ wr.heap.size := by have := hb2.size; omega
        by_cases hltr : r < S.length
        · have hsuccR := hid (byRow_succ f s r)
          generalize hR : byRow f s r = rw_ at *
          replace hR := hid hR
          by_cases hlz : lz = true
          · subst hlz
            have hrow := hid (probB_row hp.out hltr).1
            obtain ⟨b7, o7, d7, m7, rfl, hc7, hr7, _⟩ := hS.at (w' := wr) hltr
            rw [hrow.out] at hr7 hc7
            obtain ⟨b8, o8, rfl, hc8⟩ := hr7.at (w' := wr) (k := s) (by rw [hrow.out]; exact hlt)
            have hc8' : wr.cell? ⟨b8, o8 + s, none⟩ = some (.int .i64 (cell S r s)) := hc8
            clear hc8
            by_cases hge : 0 ≤ cell S r s
            · have hge' : decide (0 ≤ cell S r s) = true := by simpa using hge
              have hv := hid (show f s r = (s : Int) by rw [hf.out]; exact if_pos ⟨rfl, hge⟩)
              have hown3 := hown2
              have hb3 := hb2
              have hB3 := hB2
              go_wp2_with (at_builtin; refine wpList_append1 rfl _ _ _ rfl elemInt rfl hown3 hB3 rfl rfl (by omega) (by have := hn.out; omega) ?_; intro v3 w3 ho hb4)
              go_roundw
              case rel => exact ⟨r + 1, by omega, by go_num, by rw [hsuccR.out, hv.out]; exact own_snoc ho rfl, hb3.trans hb4⟩
              case measure => simp [intOf]; omega
            · have hge' : decide (0 ≤ cell S r s) = false := by simpa using hge
              have hv := hid (show f s r = greedyAt M S s r by rw [hf.out]; exact if_neg (fun h => hge h.2))
              go_wp2_with fail
              refine (l8Greedy_any (w0 := w0) hM' hS' hp.out hlt hltr).mono ?_
              rintro e w2 ⟨rfl, hbq⟩
              have hown3 := hown2.ext (w' := w2)
              have hb3 : Below (w.heap.size + 1) W w2 := hb2.trans (hbq.below.mono hB2)
              have hB3 : w.heap.size + 1 ≤ w2.heap.size := by have := hb3.size; omega
              go_wp2_with (at_builtin; refine wpList_append1 rfl _ _ _ rfl elemInt rfl hown3 hB3 rfl rfl (by omega) (by have := hn.out; omega) ?_; intro v3 w3 ho hb4)
              go_roundw
              case rel => exact ⟨r + 1, by omega, by go_num, by rw [hsuccR.out, hv.out]; exact own_snoc ho rfl, hb3.trans hb4⟩
              case measure => simp [intOf]; omega
          · have hlz' : lz = false := by simpa using hlz
            subst hlz'
            have hv := hid (show f s r = greedyAt M S s r by rw [hf.out]; exact if_neg (fun h => by cases h.1))
            go_wp2_with fail
            refine (l8Greedy_any (w0 := w0) hM' hS' hp.out hlt hltr).mono ?_
            rintro e w2 ⟨rfl, hbq⟩
            have hown3 := hown2.ext (w' := w2)
            have hb3 : Below (w.heap.size + 1) W w2 := hb2.trans (hbq.below.mono hB2)
            have hB3 : w.heap.size + 1 ≤ w2.heap.size := by have := hb3.size; omega
            go_wp2_with (at_builtin; refine wpList_append1 rfl _ _ _ rfl elemInt rfl hown3 hB3 rfl rfl (by omega) (by have := hn.out; omega) ?_; intro v3 w3 ho hb4)
            go_roundw
            case rel => exact ⟨r + 1, by omega, by go_num, by rw [hsuccR.out, hv.out]; exact own_snoc ho rfl, hb3.trans hb4⟩
            case measure => simp [intOf]; omega
        · have hrS : r = S.length := by omega
          subst hrS
          have hturn := rows_turn hown2
          generalize byRow f s S.length = rr at *
          go_wp2_with (at_builtin; refine wpList_append1 rfl _ _ _ rfl elemInts rfl hturn hB2 rfl rfl (by omega) (by have := hn.out; omega) ?_; intro v3 w3 ho hb3)
          have hfin := rows_snoc ho (by rw [hvs.out, ← hT.out, byTo_length])
          go_roundw
          case rel => exact ⟨s + 1, vs ++ [.slice rd rr.length rm], by omega, by go_num, by rw [List.length_append, hvs.out]; rfl, by rw [hsuccT.out]; exact hfin, hb2.trans hb3⟩
          case measure => simp [intOf]; omega
    · have hsM : s = M.length := by omega
      subst hsM
      go_wp2
      go_ret
      have hlen : vs.length = (byTo f S.length M.length).length := by rw [byTo_length]; exact hvs.out
      exact ⟨vd, vm, vs, by rw [← hlen]; rfl, hlen, by rw [← hlen]; exact hown.mono (by omega), hb⟩

set_option maxHeartbeats 1600000 in
set_option maxRecDepth 100000 in
theorem algorithmBy_any {v1 v2 : Value} {M S : List (List Int)} {f : Nat → Nat → Int} {w0 w : World} [Ext w0 w] (hM : IsRows w0 v1 M) (hS : IsRows w0 v2 S) (hp : probB M S = true) (id : Nat) (pre caps : Array Value)
    (hcall : ∀ xa W, (callFunc id xa).run Try.prog W = .ok (.enter id xa) W)
    (hf : ∀ (W : World), Ext w W → ∀ s r : Nat, s < M.length → r < S.length → Calls Try.prog id (pre ++ (#[.int .i64 s, .int .i64 r] ++ caps)) W fun e w' => e = .returned (.int .i64 (f s r)) ∧ Ext W w') :
    Calls Try.prog 73 #[.agg #[v1, v2], .func (.func id) pre caps] w fun e w' => ∃ d m vs, e = .returned (.slice d (byTo f S.length M.length).length m) ∧ vs.length = (byTo f S.length M.length).length ∧ Own w' w.heap.size (rowsOf 29 3 (.slice d (byTo f S.length M.length).length m) vs (byTo f S.length M.length)) ∧ Ext w w' := by
  have hM' := hM
  have hS' := hS
  obtain ⟨a1, c1, rfl, l1⟩ := hM.form
  obtain ⟨a2, c2, rfl, l2⟩ := hS.form
  have hn := hid (probB_len hp)
  replace hp := hid hp
  replace hf := hid hf
  go_enter Try.func73, Try.ntmps73
  go_upto_region 2 with fail
  generalize hW : (w.alloc (.cells #[.slice a1 M.length c1, .slice a2 S.length c2] 26)).alloc (.cells #[] 29) = W
  have eW : Ext w W := hW ▸ inferInstance
  have x0 : W.cell? ⟨w.heap.size, 0, none⟩ = some (.slice a1 M.length c1) := by subst hW; go_simp
  have x1 : W.cell? ⟨w.heap.size, 1, none⟩ = some (.slice a2 S.length c2) := by subst hW; go_simp
  have hB1 : w.heap.size + 1 ≤ W.heap.size := by subst hW; simp
  have own0 : Own W (w.heap.size + 1) (rowsOf 29 3 (.slice (some ⟨w.heap.size + 1, 0, none⟩) 0 0) [] []) := by
    subst hW
    have h := (Own.nil (w.alloc (.cells #[.slice a1 M.length c1, .slice a2 S.length c2] 26)) (w.heap.size + 1)).lit 29 1 0 #[] (by simp) (by unfold maxLen; omega) rfl
    rw [show (w.alloc (.cells #[.slice a1 M.length c1, .slice a2 S.length c2] 26)).heap.size = w.heap.size + 1 by simp] at h
    exact h
  clear hW
  go_wp2
  go_loopw [5, 13] (fun v i wr => ∃ s : Nat, ∃ vs : List Value, s ≤ M.length ∧ i = .int .i64 s ∧ vs.length = s ∧ Own wr (w.heap.size + 1) (rowsOf 29 3 v vs (byTo f S.length s)) ∧ Below (w.heap.size + 1) W wr) (fun _ i _ => M.length - (intOf i).toNat)
  case atStart => exact ⟨0, [], by omega, rfl, rfl, own0, Below.refl _ _⟩
  case round =>
    obtain ⟨s, vs, hs, rfl, hvs, hown, hb0⟩ := hrel
    obtain ⟨wo, rfl⟩ : ∃ x : World, x = wr := ⟨_, rfl⟩
    obtain ⟨vd, vm, rfl⟩ := Own.formVals (e := 29) (vs := vs) hown
    have hvl : vs.length ≤ M.length := by omega
    replace hvs := hid hvs
    have hb : Ext w wo := ⟨eW.below.trans (hb0.mono (by omega))⟩
    have y0 : wo.cell? ⟨w.heap.size, 0, none⟩ = some (.slice a1 M.length c1) := (hb0.cell (p := ⟨w.heap.size, 0, none⟩) (by simp)).trans x0
    have y1 : wo.cell? ⟨w.heap.size, 1, none⟩ = some (.slice a2 S.length c2) := (hb0.cell (p := ⟨w.heap.size, 1, none⟩) (by simp)).trans x1
    by_cases hlt : s < M.length
    · have hsuccT := hid (byTo_succ f S.length s)
      have hBo : w.heap.size + 1 ≤ wo.heap.size := by have := hb0.size; omega
      have hown1 : Own (wo.alloc (.cells #[] 3)) (w.heap.size + 1) (intRowOf 3 (.slice (some ⟨wo.heap.size, 0, none⟩) ([] : List Int).length 0) (byRow f s 0) :: rowsOf 29 3 (.slice vd vs.length vm) vs (byTo f S.length s)) :=
        hown.lit 3 1 0 #[] hBo (by unfold maxLen; omega) rfl
      have hb1 : Below (w.heap.size + 1) W (wo.alloc (.cells #[] 3)) := hb0.alloc hBo _
      generalize hT : byTo f S.length s = T at *
      replace hT := hid hT
      go_upto_region 6 with fail
      generalize wo.alloc (.cells #[] 3) = wp at *
      have z0 : wp.cell? ⟨w.heap.size, 0, none⟩ = some (.slice a1 M.length c1) := (hb1.cell (p := ⟨w.heap.size, 0, none⟩) (by simp)).trans x0
      have z1 : wp.cell? ⟨w.heap.size, 1, none⟩ = some (.slice a2 S.length c2) := (hb1.cell (p := ⟨w.heap.size, 1, none⟩) (by simp)).trans x1
      go_wp2
      go_loopw [7, 20] (fun v i wi => ∃ r : Nat, r ≤ S.length ∧ i = .int .i64 r ∧ Own wi (w.heap.size + 1) (intRowOf 3 v (byRow f s r) :: rowsOf 29 3 (.slice vd vs.length vm) vs T) ∧ Below (w.heap.size + 1) W wi) (fun _ i _ => S.length - (intOf i).toNat)
      case atStart => exact ⟨0, by omega, rfl, hown1, hb1⟩
      case round =>
        obtain ⟨r, hr, rfl, hown2, hb2⟩ := hrel
        obtain ⟨rd, rm, rfl⟩ := hown2.formInts
        have hrl : (byRow f s r).length ≤ S.length := by rw [byRow_length]; omega
        have eWr : Ext w wr := ⟨eW.below.trans (hb2.mono (by omega))⟩
        have e0 : Ext w0 wr := Ext.trans ‹Ext w0 w› eWr
        have u0 : wr.cell? ⟨w.heap.size, 0, none⟩ = some (.slice a1 M.length c1) := (hb2.cell (p := ⟨w.heap.size, 0, none⟩) (by simp)).trans x0
        have u1 : wr.cell? ⟨w.heap.size, 1, none⟩ = some (.slice a2 S.length c2) := (hb2.cell (p := ⟨w.heap.size, 1, none⟩) (by simp)).trans x1
        have hB2 : w.heap.size + 1 ≤ wr.heap.size := by have := hb2.size; omega
        by_cases hltr : r < S.length
        · have hsuccR := hid (byRow_succ f s r)
          generalize hR : byRow f s r = rw_ at *
          replace hR := hid hR
          go_wp2_with fail
          refine (hf.out wr eWr s r hlt hltr).mono ?_
          rintro e w2 ⟨rfl, hbq⟩
          have hown3 := hown2.ext (w' := w2)
          have hb3 : Below (w.heap.size + 1) W w2 := hb2.trans (hbq.below.mono hB2)
          have hB3 : w.heap.size + 1 ≤ w2.heap.size := by have := hb3.size; omega
          generalize hfv : f s r = fv at *
          replace hfv := hid hfv
          go_wp2_with (at_builtin; refine wpList_append1 rfl _ _ _ rfl elemInt rfl hown3 hB3 rfl rfl (by omega) (by have := hn.out; omega) ?_; intro v3 w3 ho hb4)
          go_roundw
          case rel => exact ⟨r + 1, by omega, by go_num, by rw [hsuccR.out]; exact own_snoc ho rfl, hb3.trans hb4⟩
          case measure => simp [intOf]; omega
        · have hrS : r = S.length := by omega
          subst hrS
          have hturn := rows_turn hown2
          generalize byRow f s S.length = rr at *
          go_wp2_with (at_builtin; refine wpList_append1 rfl _ _ _ rfl elemInts rfl hturn hB2 rfl rfl (by omega) (by have := hn.out; omega) ?_; intro v3 w3 ho hb3)
          have hfin := rows_snoc ho (by rw [hvs.out, ← hT.out, byTo_length])
          go_roundw
          case rel => exact ⟨s + 1, vs ++ [.slice rd rr.length rm], by omega, by go_num, by rw [List.length_append, hvs.out]; rfl, by rw [hsuccT.out]; exact hfin, hb2.trans hb3⟩
          case measure => simp [intOf]; omega
    · have hsM : s = M.length := by omega
      subst hsM
      go_wp2
      go_ret
      have hlen : vs.length = (byTo f S.length M.length).length := by rw [byTo_length]; exact hvs.out
      exact ⟨vd, vm, vs, by rw [← hlen]; rfl, hlen, by rw [← hlen]; exact hown.mono (by omega), hb⟩

end Go.Proofs.Ytkdbgobhgnjoaab
