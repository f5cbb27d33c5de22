/- OffsetsOf and OffsetSteps of the reference and of the program. Written by offsx.py. -/
import Derived.Test.YtkdbgobhgnjoaabOffsI
namespace Go.Proofs.Ytkdbgobhgnjoaab
open Go.RowKit

theorem offB_start {M S : List (List Int)} {s : Int} (h : startB M S s [] = false) : offB M S s = false := by simp [offB, h]
theorem offB_none {M S : List (List Int)} {s : Int} (h : offEnd M S s.toNat = none) : offB M S s = false := by simp [offB, h]
theorem offB_some {M S : List (List Int)} {s : Int} {n : Nat} (h0 : startB M S s [] = true) (h : offEnd M S s.toNat = some n) : offB M S s = true := by simp [offB, h0, h]
theorem offN_some {M S : List (List Int)} {s : Int} {n : Nat} (h : offEnd M S s.toNat = some n) : offN M S s = n := by simp [offN, h]
theorem offsL_false {M S : List (List Int)} {s : Int} (h : offB M S s = false) : offsL M S s = [] := by simp [offsL, h]
theorem stepsL_false {M S : List (List Int)} {s : Int} (h : offB M S s = false) : stepsL M S s = [] := by simp [stepsL, h]
theorem growsL_false {M S : List (List Int)} {s : Int} (h : offB M S s = false) : growsL M S s = [] := by simp [growsL, h]
theorem offsL_some {M S : List (List Int)} {s : Int} {n : Nat} (h0 : startB M S s [] = true) (h : offEnd M S s.toNat = some n) : offsL M S s = offLst M S s.toNat n := by rw [offsL, if_pos (offB_some h0 h), offN_some h]
theorem stepsL_some {M S : List (List Int)} {s : Int} {n : Nat} (h0 : startB M S s [] = true) (h : offEnd M S s.toNat = some n) : stepsL M S s = offStp M S s.toNat n := by rw [stepsL, if_pos (offB_some h0 h), offN_some h]
theorem growsL_some {M S : List (List Int)} {s : Int} {n : Nat} (h0 : startB M S s [] = true) (h : offEnd M S s.toNat = some n) : growsL M S s = offGrw M S s.toNat n := by rw [growsL, if_pos (offB_some h0 h), offN_some h]
theorem offGo_some {M S : List (List Int)} (hp : probB M S = true) {s n : Nat} : ∀ (f i : Nat), offGo M S s f i = some n → (offLst M S s i).length ≤ 400 → offOk M (offLst M S s i) → (offLst M S s n).length ≤ 400 ∧ n ≤ i + f ∧ offOk M (offLst M S s n)
  | 0, _, h, _, _ => by simp [offGo] at h
  | f + 1, i, h, hl, ho => by
    rw [offGo] at h
    split at h
    · rename_i hlt
      split at h
      · cases h
      · rename_i h4
        have := offGo_some hp f (i + 1) h (by omega) (rowLst_ok hp ho hlt (Nat.le_refl _))
        exact ⟨this.1, by omega, this.2.2⟩
    · cases h
      exact ⟨hl, by omega, ho⟩
theorem offEnd_some {M S : List (List Int)} {s : Int} {n : Nat} (h0 : startB M S s [] = true) (h : offEnd M S s.toNat = some n) : (offLst M S s.toNat n).length ≤ 400 ∧ n ≤ 500 ∧ offOk M (offLst M S s.toNat n) := by
  have hp := startB_prob h0
  have hs := startB_state h0
  have := offGo_some hp 500 0 h (by show [row M s.toNat].length ≤ 400; simp) (by
    intro x hx
    have hx' : x ∈ [row M s.toNat] := hx
    rw [List.mem_singleton.1 hx']
    exact row_ok hp (by omega))
  exact ⟨this.1, by omega, this.2.2⟩
theorem offB_end {M S : List (List Int)} {s : Int} (h : offB M S s = true) : startB M S s [] = true ∧ ∃ n, offEnd M S s.toNat = some n := by
  simp only [offB, Bool.and_eq_true] at h
  exact ⟨h.1, Option.isSome_iff_exists.1 h.2⟩
theorem offsL_len {M S : List (List Int)} {s : Int} : (offsL M S s).length ≤ 2000000 ∧ sumLen (offsL M S s) ≤ 2000000 := by
  cases h : offB M S s with
  | false => rw [offsL_false h]; simp [sumLen]
  | true =>
    obtain ⟨h0, n, hn⟩ := offB_end h
    rw [offsL_some h0 hn]
    obtain ⟨h1, h2, h3⟩ := offEnd_some h0 hn
    have h5 := probB_len (startB_prob h0)
    have h4 := sumLen_le (n := 4) (l := offLst M S s.toNat n) (fun x hx => by have := (h3 x hx).1; omega)
    omega
theorem stepsL_len {M S : List (List Int)} {s : Int} : (stepsL M S s).length ≤ 2000000 ∧ sumLen (stepsL M S s) ≤ 2000000 := by
  cases h : offB M S s with
  | false => rw [stepsL_false h]; simp [sumLen]
  | true =>
    obtain ⟨h0, n, hn⟩ := offB_end h
    rw [stepsL_some h0 hn]
    obtain ⟨h1, h2, h3⟩ := offEnd_some h0 hn
    have h5 := probB_len (startB_prob h0)
    have h4 := sumLen_le (n := 4) (l := offStp M S s.toNat n) (fun x hx => by
      obtain ⟨i, _, rfl⟩ := List.mem_map.1 hx
      rw [rowStp_length]; omega)
    have h6 := offStp_length M S s.toNat n
    omega
theorem growsL_len {M S : List (List Int)} {s : Int} : (growsL M S s).length ≤ 2000000 ∧ sumLen (growsL M S s) ≤ 2000000 := by
  cases h : offB M S s with
  | false => rw [growsL_false h]; simp [sumLen]
  | true =>
    obtain ⟨h0, n, hn⟩ := offB_end h
    rw [growsL_some h0 hn]
    obtain ⟨h1, h2, h3⟩ := offEnd_some h0 hn
    have h5 := probB_len (startB_prob h0)
    have h4 := sumLen_le (n := 4) (l := offGrw M S s.toNat n) (fun x hx => by
      obtain ⟨i, _, rfl⟩ := List.mem_map.1 hx
      rw [rowGrw_length]; omega)
    have h6 := offGrw_length M S s.toNat n
    omega

set_option maxHeartbeats 1600000 in
set_option maxRecDepth 100000 in
theorem specOffOf_any {v : Value} {M S : List (List Int)} {s : Int} {w0 w : World} [Ext w0 w] (hp : IsProb w0 v M S) (_hs : I64 s) :
    Calls Try.prog 17 #[v, .int .i64 s] w fun e w' => ∃ d0 m0, e = .returned (.tuple #[.slice d0 (offsL M S s).length m0, .bool (offB M S s)]) ∧ IsRows w' (.slice d0 (offsL M S s).length m0) (offsL M S s) ∧ Ext w w' := by
  have hp' := hp
  obtain ⟨v1, v2, rfl, hM, hS⟩ := hp
  have hM' := hM
  have hS' := hS
  obtain ⟨a1, c1, rfl, l1⟩ := hM.form
  obtain ⟨a2, c2, rfl, l2⟩ := hS.form
  obtain ⟨w0', hw0'⟩ : ∃ x, x = (w.alloc (.cells #[.slice a1 M.length c1, .slice a2 S.length c2] 26)).alloc (.cells #[] 3) := ⟨_, rfl⟩
  have e00 : Ext w0 w0' := by rw [hw0']; infer_instance
  have e01 : Ext w0' ((w.alloc (.cells #[.slice a1 M.length c1, .slice a2 S.length c2] 26)).alloc (.cells #[] 3)) := by rw [hw0']; infer_instance
  have hpq := hp'.ext (w' := w0')
  have hxq : IsInts w0' (.slice (some ⟨w.heap.size + 1, 0, none⟩) 0 0) [] := isInts_zero _ _ _
  clear hw0'
  cases hB0 : startB M S s [] with
  | false =>
    have hr := hid (offB_start hB0)
    have hz0 := hid (offsL_false hr.out)
    replace hB0 := hid hB0
    go_enter Try.func17, Try.ntmps17
    go_wp2_with fail
    refine (l8Takes_any (w0 := w0') hpq hxq).mono ?_; rw [hB0.out]; rintro e w1 ⟨rfl, hb1⟩
    have x0 : w1.cell? ⟨w.heap.size, 0, none⟩ = some (.slice a1 M.length c1) := hb1.cell (by go_simp)
    have x1 : w1.cell? ⟨w.heap.size, 1, none⟩ = some (.slice a2 S.length c2) := hb1.cell (by go_simp)
    have e1 : Ext w w1 := Ext.trans inferInstance hb1
    have e0 : Ext w0 w1 := Ext.trans ‹Ext w0 w› e1
    clear hb1
    go_wp2_with fail
    go_ret2
    rw [hz0.out, hr.out]
    exact ⟨_, _, rfl, isRows_zero _ _ _, Ext.trans e1 inferInstance⟩
  | true =>
    have hC0 := hid hB0
    replace hB0 := hid hB0
    have hss := startB_state hC0.out
    obtain ⟨sn, rfl⟩ := Int.eq_ofNat_of_zero_le hss.1
    have hsM : sn < M.length := by omega
    clear hss
    go_enter Try.func17, Try.ntmps17
    go_wp2_with fail
    refine (l8Takes_any (w0 := w0') hpq hxq).mono ?_; rw [hB0.out]; rintro e w1 ⟨rfl, hb1⟩
    have x0 : w1.cell? ⟨w.heap.size, 0, none⟩ = some (.slice a1 M.length c1) := hb1.cell (by go_simp)
    have x1 : w1.cell? ⟨w.heap.size, 1, none⟩ = some (.slice a2 S.length c2) := hb1.cell (by go_simp)
    have e1 : Ext w w1 := Ext.trans inferInstance hb1
    have e0 : Ext w0 w1 := Ext.trans ‹Ext w0 w› e1
    clear hb1
    go_wp2_with fail
    refine (l8All_any (w0 := w0) hM' hS' (startB_prob hC0.out) hsM).mono ?_
    rintro e w2 ⟨hpost, hb2⟩
    rcases hpost with ⟨hend, u1, n1, m1, u2, n2, m2, u3, n3, m3, rfl⟩ | ⟨n, hend, ld, lm, xd, xm, gd, gm, rfl, hL, hX, hG⟩
    · have hr := hid (offB_none (s := (sn : Int)) (by rw [Int.toNat_natCast]; exact hend))
      have hz0 := hid (offsL_false hr.out)
      replace hend := hid hend
      go_wp2_with fail
      go_ret2
      rw [hz0.out, hr.out]
      exact ⟨_, _, rfl, isRows_zero _ _ _, Ext.trans (Ext.trans e1 hb2) inferInstance⟩
    · have hend' : offEnd M S (sn : Int).toNat = some n := by rw [Int.toNat_natCast]; exact hend
      have hr := hid (offB_some hC0.out hend')
      have hv0 := hid (offsL_some hC0.out hend')
      rw [Int.toNat_natCast] at hv0
      replace hend := hid hend
      replace hend' := hid hend'
      go_wp2_with (go_quiet (fail))
      go_ret2
      rw [hv0.out, hr.out]
      exact ⟨_, _, rfl, hL.ext, Ext.trans (Ext.trans e1 hb2) inferInstance⟩

set_option maxHeartbeats 1600000 in
set_option maxRecDepth 100000 in
theorem implOffOf_any {v : Value} {M S : List (List Int)} {s : Int} {w0 w : World} [Ext w0 w] (hp : IsProb w0 v M S) (_hs : I64 s) :
    Calls Try.prog 16 #[v, .int .i64 s] w fun e w' => ∃ d0 m0 vs0, e = .returned (.tuple #[.slice d0 (offsL M S s).length m0, .bool (offB M S s)]) ∧ vs0.length = (offsL M S s).length ∧ Own w' w.heap.size (rowsOf 29 3 (.slice d0 (offsL M S s).length m0) vs0 (offsL M S s)) ∧ Ext w w' := by
  have hp' := hp
  obtain ⟨v1, v2, rfl, hM, hS⟩ := hp
  have hM' := hM
  have hS' := hS
  obtain ⟨a1, c1, rfl, l1⟩ := hM.form
  obtain ⟨a2, c2, rfl, l2⟩ := hS.form
  cases hB0 : startB M S s [] with
  | false =>
    have hr := hid (offB_start hB0)
    have hz0 := hid (offsL_false hr.out)
    replace hB0 := hid hB0
    go_enter Try.func16, Try.ntmps16
    go_wp2_with fail
    refine (isStarted_any (w0 := w0) hp' (IsInts.nil w0)).mono ?_; rw [hB0.out]; rintro e w1 ⟨rfl, hb1⟩
    have x0 : w1.cell? ⟨w.heap.size, 0, none⟩ = some (.slice a1 M.length c1) := hb1.cell (by go_simp)
    have x1 : w1.cell? ⟨w.heap.size, 1, none⟩ = some (.slice a2 S.length c2) := hb1.cell (by go_simp)
    have e1 : Ext w w1 := Ext.trans inferInstance hb1
    have e0 : Ext w0 w1 := Ext.trans ‹Ext w0 w› e1
    clear hb1
    go_wp2_with fail
    go_ret2
    rw [hz0.out, hr.out]
    exact ⟨_, _, [], rfl, rfl, own_nils_r _ _, Ext.trans e1 inferInstance⟩
  | true =>
    have hC0 := hid hB0
    replace hB0 := hid hB0
    have hss := startB_state hC0.out
    obtain ⟨sn, rfl⟩ := Int.eq_ofNat_of_zero_le hss.1
    have hsM : sn < M.length := by omega
    clear hss
    go_enter Try.func16, Try.ntmps16
    go_wp2_with fail
    refine (isStarted_any (w0 := w0) hp' (IsInts.nil w0)).mono ?_; rw [hB0.out]; rintro e w1 ⟨rfl, hb1⟩
    have x0 : w1.cell? ⟨w.heap.size, 0, none⟩ = some (.slice a1 M.length c1) := hb1.cell (by go_simp)
    have x1 : w1.cell? ⟨w.heap.size, 1, none⟩ = some (.slice a2 S.length c2) := hb1.cell (by go_simp)
    have e1 : Ext w w1 := Ext.trans inferInstance hb1
    have e0 : Ext w0 w1 := Ext.trans ‹Ext w0 w› e1
    clear hb1
    go_wp2_with fail
    refine (offsets_any (w0 := w0) hM' hS' (startB_prob hC0.out) hsM).mono ?_
    rintro e w2 ⟨hpost, hb2⟩
    rcases hpost with ⟨hend, rfl⟩ | ⟨n, hend, ld, lm, xd, xm, gd, gm, lvs, xvs, gvs, rfl, hlv, hxv, hgv, own, _, _, _, _, _⟩
    · have hr := hid (offB_none (s := (sn : Int)) (by rw [Int.toNat_natCast]; exact hend))
      have hz0 := hid (offsL_false hr.out)
      replace hend := hid hend
      go_wp2_with fail
      go_ret2
      rw [hz0.out, hr.out]
      exact ⟨_, _, [], rfl, rfl, own_nils_r _ _, Ext.trans e1 hb2⟩
    · have hend' : offEnd M S (sn : Int).toNat = some n := by rw [Int.toNat_natCast]; exact hend
      have hr := hid (offB_some hC0.out hend')
      have hv0 := hid (offsL_some hC0.out hend')
      rw [Int.toNat_natCast] at hv0
      replace hend := hid hend
      replace hend' := hid hend'
      replace hlv := hid hlv
      replace hxv := hid hxv
      replace hgv := hid hgv
      have own2 := (Own.left (own.mono e1.size))
      go_wp2_with fail
      go_ret2
      rw [hv0.out, hr.out]
      exact ⟨_, _, _, rfl, hlv.out, own2, Ext.trans e1 hb2⟩

set_option maxHeartbeats 1600000 in
set_option maxRecDepth 100000 in
theorem specOffSteps_any {v : Value} {M S : List (List Int)} {s : Int} {w0 w : World} [Ext w0 w] (hp : IsProb w0 v M S) (_hs : I64 s) :
    Calls Try.prog 20 #[v, .int .i64 s] w fun e w' => ∃ d0 m0 d1 m1, e = .returned (.tuple #[.slice d0 (stepsL M S s).length m0, .slice d1 (growsL M S s).length m1, .bool (offB M S s)]) ∧ IsRows w' (.slice d0 (stepsL M S s).length m0) (stepsL M S s) ∧ IsRows w' (.slice d1 (growsL M S s).length m1) (growsL M S s) ∧ Ext w w' := by
  have hp' := hp
  obtain ⟨v1, v2, rfl, hM, hS⟩ := hp
  have hM' := hM
  have hS' := hS
  obtain ⟨a1, c1, rfl, l1⟩ := hM.form
  obtain ⟨a2, c2, rfl, l2⟩ := hS.form
  obtain ⟨w0', hw0'⟩ : ∃ x, x = (w.alloc (.cells #[.slice a1 M.length c1, .slice a2 S.length c2] 26)).alloc (.cells #[] 3) := ⟨_, rfl⟩
  have e00 : Ext w0 w0' := by rw [hw0']; infer_instance
  have e01 : Ext w0' ((w.alloc (.cells #[.slice a1 M.length c1, .slice a2 S.length c2] 26)).alloc (.cells #[] 3)) := by rw [hw0']; infer_instance
  have hpq := hp'.ext (w' := w0')
  have hxq : IsInts w0' (.slice (some ⟨w.heap.size + 1, 0, none⟩) 0 0) [] := isInts_zero _ _ _
  clear hw0'
  cases hB0 : startB M S s [] with
  | false =>
    have hr := hid (offB_start hB0)
    have hz0 := hid (stepsL_false hr.out)
    have hz1 := hid (growsL_false hr.out)
    replace hB0 := hid hB0
    go_enter Try.func20, Try.ntmps20
    go_wp2_with fail
    refine (l8Takes_any (w0 := w0') hpq hxq).mono ?_; rw [hB0.out]; rintro e w1 ⟨rfl, hb1⟩
    have x0 : w1.cell? ⟨w.heap.size, 0, none⟩ = some (.slice a1 M.length c1) := hb1.cell (by go_simp)
    have x1 : w1.cell? ⟨w.heap.size, 1, none⟩ = some (.slice a2 S.length c2) := hb1.cell (by go_simp)
    have e1 : Ext w w1 := Ext.trans inferInstance hb1
    have e0 : Ext w0 w1 := Ext.trans ‹Ext w0 w› e1
    clear hb1
    go_wp2_with fail
    go_ret3
    rw [hz0.out, hz1.out, hr.out]
    exact ⟨_, _, _, _, rfl, isRows_zero _ _ _, isRows_zero _ _ _, Ext.trans e1 inferInstance⟩
  | true =>
    have hC0 := hid hB0
    replace hB0 := hid hB0
    have hss := startB_state hC0.out
    obtain ⟨sn, rfl⟩ := Int.eq_ofNat_of_zero_le hss.1
    have hsM : sn < M.length := by omega
    clear hss
    go_enter Try.func20, Try.ntmps20
    go_wp2_with fail
    refine (l8Takes_any (w0 := w0') hpq hxq).mono ?_; rw [hB0.out]; rintro e w1 ⟨rfl, hb1⟩
    have x0 : w1.cell? ⟨w.heap.size, 0, none⟩ = some (.slice a1 M.length c1) := hb1.cell (by go_simp)
    have x1 : w1.cell? ⟨w.heap.size, 1, none⟩ = some (.slice a2 S.length c2) := hb1.cell (by go_simp)
    have e1 : Ext w w1 := Ext.trans inferInstance hb1
    have e0 : Ext w0 w1 := Ext.trans ‹Ext w0 w› e1
    clear hb1
    go_wp2_with fail
    refine (l8All_any (w0 := w0) hM' hS' (startB_prob hC0.out) hsM).mono ?_
    rintro e w2 ⟨hpost, hb2⟩
    rcases hpost with ⟨hend, u1, n1, m1, u2, n2, m2, u3, n3, m3, rfl⟩ | ⟨n, hend, ld, lm, xd, xm, gd, gm, rfl, hL, hX, hG⟩
    · have hr := hid (offB_none (s := (sn : Int)) (by rw [Int.toNat_natCast]; exact hend))
      have hz0 := hid (stepsL_false hr.out)
      have hz1 := hid (growsL_false hr.out)
      replace hend := hid hend
      go_wp2_with fail
      go_ret3
      rw [hz0.out, hz1.out, hr.out]
      exact ⟨_, _, _, _, rfl, isRows_zero _ _ _, isRows_zero _ _ _, Ext.trans (Ext.trans e1 hb2) inferInstance⟩
    · have hend' : offEnd M S (sn : Int).toNat = some n := by rw [Int.toNat_natCast]; exact hend
      have hr := hid (offB_some hC0.out hend')
      have hv0 := hid (stepsL_some hC0.out hend')
      have hv1 := hid (growsL_some hC0.out hend')
      rw [Int.toNat_natCast] at hv0 hv1
      replace hend := hid hend
      replace hend' := hid hend'
      go_wp2_with (go_quiet (fail))
      go_ret3
      rw [hv0.out, hv1.out, hr.out]
      exact ⟨_, _, _, _, rfl, hX.ext, hG.ext, Ext.trans (Ext.trans e1 hb2) inferInstance⟩

set_option maxHeartbeats 1600000 in
set_option maxRecDepth 100000 in
theorem implOffSteps_any {v : Value} {M S : List (List Int)} {s : Int} {w0 w : World} [Ext w0 w] (hp : IsProb w0 v M S) (_hs : I64 s) :
    Calls Try.prog 19 #[v, .int .i64 s] w fun e w' => ∃ d0 m0 vs0 d1 m1 vs1, e = .returned (.tuple #[.slice d0 (stepsL M S s).length m0, .slice d1 (growsL M S s).length m1, .bool (offB M S s)]) ∧ vs0.length = (stepsL M S s).length ∧ vs1.length = (growsL M S s).length ∧ Own w' w.heap.size (rowsOf 29 3 (.slice d0 (stepsL M S s).length m0) vs0 (stepsL M S s) ++ rowsOf 29 3 (.slice d1 (growsL M S s).length m1) vs1 (growsL M S s)) ∧ Ext w w' := by
  have hp' := hp
  obtain ⟨v1, v2, rfl, hM, hS⟩ := hp
  have hM' := hM
  have hS' := hS
  obtain ⟨a1, c1, rfl, l1⟩ := hM.form
  obtain ⟨a2, c2, rfl, l2⟩ := hS.form
  cases hB0 : startB M S s [] with
  | false =>
    have hr := hid (offB_start hB0)
    have hz0 := hid (stepsL_false hr.out)
    have hz1 := hid (growsL_false hr.out)
    replace hB0 := hid hB0
    go_enter Try.func19, Try.ntmps19
    go_wp2_with fail
    refine (isStarted_any (w0 := w0) hp' (IsInts.nil w0)).mono ?_; rw [hB0.out]; rintro e w1 ⟨rfl, hb1⟩
    have x0 : w1.cell? ⟨w.heap.size, 0, none⟩ = some (.slice a1 M.length c1) := hb1.cell (by go_simp)
    have x1 : w1.cell? ⟨w.heap.size, 1, none⟩ = some (.slice a2 S.length c2) := hb1.cell (by go_simp)
    have e1 : Ext w w1 := Ext.trans inferInstance hb1
    have e0 : Ext w0 w1 := Ext.trans ‹Ext w0 w› e1
    clear hb1
    go_wp2_with fail
    go_ret3
    rw [hz0.out, hz1.out, hr.out]
    exact ⟨_, _, [], _, _, [], rfl, rfl, rfl, own_nils_rr _ _, Ext.trans e1 inferInstance⟩
  | true =>
    have hC0 := hid hB0
    replace hB0 := hid hB0
    have hss := startB_state hC0.out
    obtain ⟨sn, rfl⟩ := Int.eq_ofNat_of_zero_le hss.1
    have hsM : sn < M.length := by omega
    clear hss
    go_enter Try.func19, Try.ntmps19
    go_wp2_with fail
    refine (isStarted_any (w0 := w0) hp' (IsInts.nil w0)).mono ?_; rw [hB0.out]; rintro e w1 ⟨rfl, hb1⟩
    have x0 : w1.cell? ⟨w.heap.size, 0, none⟩ = some (.slice a1 M.length c1) := hb1.cell (by go_simp)
    have x1 : w1.cell? ⟨w.heap.size, 1, none⟩ = some (.slice a2 S.length c2) := hb1.cell (by go_simp)
    have e1 : Ext w w1 := Ext.trans inferInstance hb1
    have e0 : Ext w0 w1 := Ext.trans ‹Ext w0 w› e1
    clear hb1
    go_wp2_with fail
    refine (offsets_any (w0 := w0) hM' hS' (startB_prob hC0.out) hsM).mono ?_
    rintro e w2 ⟨hpost, hb2⟩
    rcases hpost with ⟨hend, rfl⟩ | ⟨n, hend, ld, lm, xd, xm, gd, gm, lvs, xvs, gvs, rfl, hlv, hxv, hgv, own, _, _, _, _, _⟩
    · have hr := hid (offB_none (s := (sn : Int)) (by rw [Int.toNat_natCast]; exact hend))
      have hz0 := hid (stepsL_false hr.out)
      have hz1 := hid (growsL_false hr.out)
      replace hend := hid hend
      go_wp2_with fail
      go_ret3
      rw [hz0.out, hz1.out, hr.out]
      exact ⟨_, _, [], _, _, [], rfl, rfl, rfl, own_nils_rr _ _, Ext.trans e1 hb2⟩
    · have hend' : offEnd M S (sn : Int).toNat = some n := by rw [Int.toNat_natCast]; exact hend
      have hr := hid (offB_some hC0.out hend')
      have hv0 := hid (stepsL_some hC0.out hend')
      have hv1 := hid (growsL_some hC0.out hend')
      rw [Int.toNat_natCast] at hv0 hv1
      replace hend := hid hend
      replace hend' := hid hend'
      replace hlv := hid hlv
      replace hxv := hid hxv
      replace hgv := hid hgv
      have own2 := (by have h := (own.mono e1.size).right; rw [List.append_nil] at h; exact h : Own w2 w.heap.size _)
      go_wp2_with fail
      go_ret3
      rw [hv0.out, hv1.out, hr.out]
      exact ⟨_, _, _, _, _, _, rfl, hxv.out, hgv.out, own2, Ext.trans e1 hb2⟩

end Go.Proofs.Ytkdbgobhgnjoaab
