/- The work function after one more request, as the program makes it. -/
import Derived.Test.YtkniohcmhdgbeaaNext
import Derived.Test.YtkniohcmhdgbeaaRep
import Derived.Test.YtkniohcmhdgbeaaMark
import Derived.StillTailTactics
namespace Go.Proofs.Ytkniohcmhdgbeaa
open Go.RowKit

/-- the list when j served states are done, and x places of the next one -/
def mixAt (M S : List (List Int)) (w : List Int) (r j y : Nat) : Int := ((servedL (row S r)).take j).foldl (minB (wsum M S w r y)) 1073741824
def mixL (M S : List (List Int)) (w : List Int) (r j x : Nat) : List Int := (List.range w.length).map fun y => mixAt M S w r (if y < x then j + 1 else j) y
theorem mixL_length (M S : List (List Int)) (w : List Int) (r j x : Nat) : (mixL M S w r j x).length = w.length := by simp [mixL]
theorem nth_mixL {M S : List (List Int)} {w : List Int} {r j x y : Nat} (h : y < w.length) : nth (mixL M S w r j x) y = mixAt M S w r (if y < x then j + 1 else j) y := by simp [mixL, nth, h]
theorem mixL_zero (M S : List (List Int)) (w : List Int) (r : Nat) : mixL M S w r 0 0 = List.replicate w.length 1073741824 := by
  refine eq_of_nth (by rw [mixL_length, List.length_replicate]) fun y hy => ?_
  rw [mixL_length] at hy
  rw [nth_mixL hy]
  simp [mixAt, nth, hy]
theorem mixL_full (M S : List (List Int)) (w : List Int) (r j : Nat) : mixL M S w r j w.length = mixL M S w r (j + 1) 0 := by
  refine eq_of_nth (by rw [mixL_length, mixL_length]) fun y hy => ?_
  rw [mixL_length] at hy
  rw [nth_mixL hy, nth_mixL hy, if_pos hy, if_neg (by omega)]
theorem mixL_all (M S : List (List Int)) (w : List Int) (r : Nat) : mixL M S w r (servedL (row S r)).length 0 = nextL M S w r := by
  refine eq_of_nth (by rw [mixL_length, nextL_length]) fun y hy => ?_
  rw [mixL_length] at hy
  rw [nth_mixL hy, nth_nextL hy, if_neg (by omega), mixAt, List.take_length]
  rfl
theorem mixL_set {M S : List (List Int)} {w : List Int} {r j x : Nat} (hx : x < w.length) : ((mixL M S w r j x).map (Value.int .i64)).set x (.int .i64 (mixAt M S w r (j + 1) x)) = (mixL M S w r j (x + 1)).map (Value.int .i64) := by
  rw [← List.map_set]
  congr 1
  refine eq_of_nth (by rw [List.length_set, mixL_length, mixL_length]) fun y hy => ?_
  rw [List.length_set, mixL_length] at hy
  rw [nth_mixL hy]
  by_cases h : y = x
  · subst h
    simp [nth, mixL_length, hy]
  · have e : nth ((mixL M S w r j x).set x (mixAt M S w r (j + 1) x)) y = nth (mixL M S w r j x) y := by
      simp [nth, Ne.symm h]
    rw [e, nth_mixL hy]
    by_cases h2 : y < x
    · rw [if_pos h2, if_pos (by omega)]
    · rw [if_neg h2, if_neg (by omega)]
theorem mixAt_succ {M S : List (List Int)} {w : List Int} {r j y : Nat} (hj : j < (servedL (row S r)).length) : mixAt M S w r (j + 1) y = minB (wsum M S w r y) (mixAt M S w r j y) (nth (servedL (row S r)) j) := foldTake _ _ hj
theorem mixAt_in {M S : List (List Int)} (hp : probB M S = true) {w : List Int} {B : Int} (hw : wOk M w B) {r y : Nat} (hr : r < S.length) (hy : y < M.length) (j : Nat) : 0 ≤ mixAt M S w r j y ∧ mixAt M S w r j y ≤ 1073741824 := by
  obtain ⟨h1, _, h3⟩ := foldB_le (f := wsum M S w r y) ((servedL (row S r)).take j) 1073741824
  refine ⟨?_, h1⟩
  rcases h3 with h3 | ⟨t, ht, h3⟩
  · unfold mixAt; omega
  · have := wsum_in hp hw hr hy (List.mem_of_mem_take ht)
    unfold mixAt; omega

set_option maxHeartbeats 1600000 in
set_option maxRecDepth 100000 in
theorem nextWork_any {v1 v2 v3 : Value} {M S : List (List Int)} {ws : List Int} {B : Int} {r : Nat} {w0 w : World} [Ext w0 w] (hM : IsRows w0 v1 M) (hS : IsRows w0 v2 S) (hx : IsInts w0 v3 ws) (hp : probB M S = true) (hok : wOk M ws B) (hB : B ≤ 100000) (hr : r < S.length) :
    Calls Try.prog 61 #[.agg #[v1, v2], v3, .int .i64 r] w fun e w' => ∃ d m, e = .returned (.slice d (nextL M S ws r).length m) ∧ Own w' w.heap.size [intRowOf 3 (.slice d (nextL M S ws r).length m) (nextL M S ws r)] ∧ Ext w w' := by
  have hM' := hM
  have hS' := hS
  obtain ⟨a1, c1, rfl, l1⟩ := hM.form
  obtain ⟨a2, c2, rfl, l2⟩ := hS.form
  obtain ⟨a3, c3, rfl, l3⟩ := hx.form
  have hrow := hid (probB_row hp hr).1
  have hsq := hid (tableB_square (probB_table hp))
  have hlen := hid hok.1
  have hn := hid (probB_len hp)
  have hrI := hid (show (0 : Int) ≤ (r : Int) ∧ (r : Int) < S.length by omega)
  replace hp := hid hp
  replace hok := hid hok
  go_enter Try.func61, Try.ntmps61
  go_wp2_with fail
  generalize hW : (w.alloc (.cells #[.slice a1 M.length c1, .slice a2 S.length c2] 26)).alloc (.cells #[.int .i64 1073741824] 3) = W
  have eW : Ext w W := hW ▸ inferInstance
  have x0 : W.cell? ⟨w.heap.size, 0, none⟩ = some (.slice a1 M.length c1) := by subst hW; go_simp
  have x1 : W.cell? ⟨w.heap.size, 1, none⟩ = some (.slice a2 S.length c2) := by subst hW; go_simp
  have hfar : IsInts W (.slice (some ⟨w.heap.size + 1, 0, none⟩) ([1073741824] : List Int).length 1) [1073741824] := by
    subst hW
    exact (Own.litInts (W := w.alloc (.cells #[.slice a1 M.length c1, .slice a2 S.length c2] 26)) (B := 0) (e := 3) (xs := [1073741824]) (Nat.zero_le _) (by simp) rfl (by simp) rfl).reads (by unfold Short; simp) (by intro x hx; simp at hx; subst hx; unfold I64; omega)
  have eW0 : Ext w0 W := Ext.trans ‹Ext w0 w› eW
  clear hW
  have k0 := hid x0
  have k1 := hid x1
  refine (sRepeat_any (w0 := W) (n := ws.length) hfar (by have := hlen.out; have := hn.out; omega) (by have := hlen.out; have := hn.out; omega)).mono ?_
  rintro e W1 ⟨od, om, rfl, own1, hb1⟩
  rw [List.length_replicate] at own1 ⊢
  replace x0 := hb1.cell x0
  replace x1 := hb1.cell x1
  have e01 : Ext w0 W1 := Ext.trans eW0 hb1
  go_wp2_with fail
  refine (served_any (w0 := w0) hM' hS' hrI.out.1 hrI.out.2).mono ?_
  rw [Int.toNat_natCast]
  rintro e W2 ⟨sd, sm, rfl, own2, hb2⟩
  have own : Own W2 W.heap.size (⟨3, 1, .slice od ws.length om, ws.length, (mixL M S ws r 0 0).map (Value.int .i64)⟩ :: [intRowOf 3 (.slice sd (servedL (row S r)).length sm) (servedL (row S r))]) := by
    have h := Own.rot (Own.add own2 own1 hb2 hb1.size)
    rw [mixL_zero]
    unfold intRowOf at h
    rw [List.length_replicate] at h
    exact h
  have hL4 : (servedL (row S r)).length ≤ 4 := by
    have := servedTo_length (row S r) (row S r).length
    have h1 := hrow.out
    have h2 := hn.out
    unfold servedL
    omega
  have hLi : Hid (∀ x ∈ servedL (row S r), I64 x) := servedTo_i64 (cs := row S r) (k := (row S r).length) (by have := hrow.out; have := hn.out; omega)
  have hLm := hid (fun s (h : s ∈ servedL (row S r)) => servedL_lt h)
  have hbW : Below W.heap.size W W2 := (hb1.below).trans (hb2.below.mono hb1.size)
  have hall := hid (mixL_all M S ws r)
  have hasz : w.heap.size < W.heap.size := World.block_lt_of_cell? W ⟨w.heap.size, 0, none⟩ k0.out
  generalize hL : servedL (row S r) = L at *
  replace hL := hid hL
  go_wp2
  go_loopw [19] (fun i wr => ∃ j : Nat, j ≤ L.length ∧ i = .int .i64 j ∧ Own wr W.heap.size (⟨3, 1, .slice od ws.length om, ws.length, (mixL M S ws r j 0).map (Value.int .i64)⟩ :: [intRowOf 3 (.slice sd L.length sm) L]) ∧ Below W.heap.size W wr) (fun i _ => L.length - (intOf i).toNat)
  case atStart => exact ⟨0, by omega, rfl, own, hbW⟩
  case round =>
    obtain ⟨j, hj, rfl, hown, hb0⟩ := hrel
    obtain ⟨wo, rfl⟩ : ∃ x : World, x = wr := ⟨_, rfl⟩
    by_cases hlt : j < L.length
    · have hLr := hown.tail.reads (by unfold Short; omega) hLi.out
      obtain ⟨b3, o3, rfl, hc3⟩ := hLr.at (w' := wo) hlt
      have hmem := hLm.out _ (nth_mem hlt)
      obtain ⟨s, hs⟩ := Int.eq_ofNat_of_zero_le hmem.1
      rw [hs, Int.toNat_natCast, hrow.out] at hmem
      rw [hs] at hc3
      replace hs := hid hs
      have hsM := hmem.2.1
      have hfull := hid (mixL_full M S ws r j)
      clear hmem
      go_wp2
      go_loopw [25] (fun i wi => ∃ x : Nat, x ≤ ws.length ∧ i = .int .i64 x ∧ Own wi W.heap.size (⟨3, 1, .slice od ws.length om, ws.length, (mixL M S ws r j x).map (Value.int .i64)⟩ :: [intRowOf 3 (.slice (some ⟨b3, o3, none⟩) L.length sm) L]) ∧ Below W.heap.size W wi) (fun i _ => ws.length - (intOf i).toNat)
      case atStart => exact ⟨0, by omega, rfl, hown, hb0⟩
      case round =>
        obtain ⟨x, hxl, rfl, hown2, hb3⟩ := hrel
        by_cases hltx : x < ws.length
        · have hxM : x < M.length := by have := hlen.out; omega
          have hsW : s < ws.length := by have := hlen.out; omega
          have eWr : Ext W wr := ⟨hb3⟩
          have e0 : Ext w0 wr := Ext.trans eW0 eWr
          have y0 : wr.cell? ⟨w.heap.size, 0, none⟩ = some (.slice a1 M.length c1) := (hb3.cell (p := ⟨w.heap.size, 0, none⟩) hasz).trans k0.out
          have y1 : wr.cell? ⟨w.heap.size, 1, none⟩ = some (.slice a2 S.length c2) := (hb3.cell (p := ⟨w.heap.size, 1, none⟩) hasz).trans k1.out
          obtain ⟨g, rfl⟩ := hown2.at hltx
          have hf := hown2.frozenAt x
          have hc := hown2.cellAt (w' := wr) hltx
          have hcx : ((mixL M S ws r j x).map (Value.int .i64)).getD x undef = .int .i64 (mixAt M S ws r j x) := by
            have e := nth_mixL (M := M) (S := S) (r := r) (j := j) (x := x) hltx
            rw [if_neg (by omega)] at e
            rw [← e]
            simp [nth, mixL_length, hltx]
          rw [hcx] at hc
          clear hcx
          have hset := hid (mixL_set (M := M) (S := S) (r := r) (j := j) hltx)
          have hsucc := hid (mixAt_succ (M := M) (S := S) (w := ws) (r := r) (j := j) (y := x) (by rw [hL.out]; exact hlt))
          have hcur := mixAt_in hp.out hok.out hr hxM j
          obtain ⟨b4, o4, rfl, hc4⟩ := hx.at (w' := wr) hsW
          obtain ⟨b5, o5, d5, m5, rfl, hc5, hr5, _⟩ := hM.at (w' := wr) hsM
          have hl5 := square_row hsq.out hsM
          rw [hl5] at hr5 hc5
          replace hl5 := hid hl5
          obtain ⟨b6, o6, rfl, hc6⟩ := hr5.at (w' := wr) (k := x) (by rw [hl5.out]; exact hxM)
          have hc6' : wr.cell? ⟨b6, o6 + x, none⟩ = some (.int .i64 (cell M s x)) := hc6
          clear hc6
          obtain ⟨b7, o7, d7, m7, rfl, hc7, hr7, _⟩ := hS.at (w' := wr) hr
          rw [hrow.out] at hr7 hc7
          obtain ⟨b8, o8, rfl, hc8⟩ := hr7.at (w' := wr) (k := s) (by rw [hrow.out]; exact hsM)
          have hc8' : wr.cell? ⟨b8, o8 + s, none⟩ = some (.int .i64 (cell S r s)) := hc8
          clear hc8
          have q1 := hok.out.2 s hsM
          have q2 := probB_serve hp.out hr hsM
          have q3 := probB_move hp.out hsM hxM
          have hws := hid (show wsum M S ws r x (s : Int) = nth ws s + cell S r s + cell M s x by simp [wsum])
          have hs2 := hid (show nth (servedL (row S r)) j = (s : Int) by rw [hL.out]; exact hs.out)
          have hmin := hid (show mixAt M S ws r (j + 1) x = if nth ws s + cell S r s + cell M s x < mixAt M S ws r j x then nth ws s + cell S r s + cell M s x else mixAt M S ws r j x by rw [hsucc.out, hs2.out, minB, hws.out])
          clear hsucc
          generalize mixAt M S ws r j x = cu at *
          have hgB := hown2.lt.1
          by_cases hlc : nth ws s + cell S r s + cell M s x < cu
          · have hm2 := hid (hmin.out.trans (if_pos hlc))
            clear hmin
            go_upto_region 8 with fail
            go_still_tail 30, (by kernel_rfl)
            change wpList _ _ _ _ _ wr.drew
            have hfd : wr.drew.frozen? ⟨g, x, none⟩ = false := hf
            have hcd : wr.drew.cell? ⟨g, x, none⟩ = some (.int .i64 cu) := hc
            go_wp2
            go_roundw
            case rel =>
              refine ⟨x + 1, by omega, by go_num, ?_, hb3.drew.setCell hgB _⟩
              have h := (hown2.ext (w' := wr.drew)).set x (.int .i64 (mixAt M S ws r (j + 1) x))
              rw [hset.out] at h
              rw [hm2.out] at h
              exact h
            case measure => simp [intOf]; omega
          · have hm2 := hid (hmin.out.trans (if_neg hlc))
            clear hmin
            go_upto_region 8 with fail
            go_still_tail 30, (by kernel_rfl)
            change wpList _ _ _ _ _ wr.drew
            have hfd : wr.drew.frozen? ⟨g, x, none⟩ = false := hf
            have hcd : wr.drew.cell? ⟨g, x, none⟩ = some (.int .i64 cu) := hc
            go_wp2
            go_roundw
            case rel =>
              refine ⟨x + 1, by omega, by go_num, ?_, hb3.drew.setCell hgB _⟩
              have h := (hown2.ext (w' := wr.drew)).set x (.int .i64 (mixAt M S ws r (j + 1) x))
              rw [hset.out] at h
              rw [hm2.out] at h
              exact h
            case measure => simp [intOf]; omega
        · have : x = ws.length := by omega
          subst this
          rw [hfull.out] at hown2
          go_wp2
          go_roundw
          case rel => exact ⟨j + 1, by omega, by go_num, hown2, hb3⟩
          case measure => simp [intOf]; omega
    · have : j = L.length := by omega
      subst this
      rw [hall.out] at hown
      go_wp2
      go_ret
      refine ⟨od, om, by rw [nextL_length]; rfl, ?_, ⟨eW.below.trans (hb0.mono eW.size)⟩⟩
      unfold intRowOf
      rw [nextL_length]
      exact (Own.left (S := [intRowOf 3 (.slice sd L.length sm) L]) hown).mono eW.size

end Go.Proofs.Ytkniohcmhdgbeaa
