/- The cost of a chain list: the reference's. -/
import Derived.Test.YtllfchcocgdcjaaGreatChn
namespace Go.Proofs.YtllfchcocgdcjaaGreat
open Go.RowKit

set_option maxHeartbeats 400000 in
theorem l7Point_any {va vX : Value} {a X : List Int} {k : Nat} {w0 w : World} [Ext w0 w] (ha : IsInts w0 va a) (hXi : IsInts w0 vX X) (hk : k < a.length + X.length) (hl : a.length + X.length ≤ 1000) :
    Calls Tryz.prog 77 #[va, vX, .int .i64 k] w fun e w' => e = .returned (.int .i64 (nth (a ++ X) k)) ∧ w' = w := by
  obtain ⟨da, ma, rfl, la⟩ := ha.form
  obtain ⟨dx, mx, rfl, lx⟩ := hXi.form
  by_cases hka : k < a.length
  · obtain ⟨b, o, hd, hc⟩ := ha.at (w' := w) hka
    cases hd
    have hv := hid (show nth (a ++ X) k = nth a k by simp [nth, List.getElem?_append_left hka])
    have hg : decide (k < a.length) = true := decide_eq_true hka
    go_enter Tryz.func77, Tryz.ntmps77
    go_wp2_with fail
    go_ret
    exact ⟨ret_int hv.out.symm, rfl⟩
  · obtain ⟨q, rfl⟩ : ∃ q, k = a.length + q := ⟨k - a.length, by omega⟩
    obtain ⟨b, o, hd, hc⟩ := hXi.at (w' := w) (k := q) (by omega)
    cases hd
    have hv := hid (show nth (a ++ X) (a.length + q) = nth X q by simp [nth, List.getElem?_append_right])
    have hg : decide (a.length + q < a.length) = false := decide_eq_false hka
    have hq : q < X.length := by omega
    go_enter Tryz.func77, Tryz.ntmps77
    go_wp2_with fail
    go_ret
    exact ⟨ret_int hv.out.symm, rfl⟩

set_option maxHeartbeats 800000 in
set_option maxRecDepth 100000 in
theorem l7Gap_any {v va vX : Value} {M : List (List Int)} {a X : List Int} {k i : Nat} {w0 w : World} [Ext w0 w] (hm : IsMet w0 v M) (ha : IsInts w0 va a) (hXi : IsInts w0 vX X) (hM : metB M = true) (hab : ∀ x ∈ a, 0 ≤ x ∧ x < (M.length : Int)) (hXb : ∀ x ∈ X, 0 ≤ x ∧ x < (M.length : Int)) (hi : i < X.length) (hk : k < a.length + i) (hl : a.length + X.length ≤ 1000) :
    Calls Tryz.prog 49 #[v, va, vX, .int .i64 k, .int .i64 i] w fun e w' => e = .returned (.int .i64 (flC M a X i k)) ∧ Ext w w' := by
  have ha' := ha
  have hX' := hXi
  obtain ⟨v1, rfl, hR⟩ := hm
  obtain ⟨a1, c1, rfl, l1⟩ := hR.form
  obtain ⟨da, ma, rfl, la⟩ := ha.form
  obtain ⟨dx, mx, rfl, lx⟩ := hXi.form
  have hkl : k < (a ++ X).length := by rw [List.length_append]; omega
  have hpb : 0 ≤ nth (a ++ X) k ∧ nth (a ++ X) k < (M.length : Int) := by
    rcases List.mem_append.1 (nth_mem hkl) with h | h
    · exact hab _ h
    · exact hXb _ h
  have hrb := hXb _ (nth_mem hi)
  obtain ⟨p, hp⟩ := Int.eq_ofNat_of_zero_le hpb.1
  obtain ⟨r, hr⟩ := Int.eq_ofNat_of_zero_le hrb.1
  have hfl := hid (show flC M a X i k = cell M p r by rw [flC, if_pos hk, hp, hr, Int.toNat_natCast, Int.toNat_natCast])
  have hP := hid (show ∀ u, Ext w0 u → Calls Tryz.prog 77 #[.slice da a.length ma, .slice dx X.length mx, .int .i64 k] u fun e w' => e = .returned (.int .i64 p) ∧ w' = u from fun u e => by
    have h := l7Point_any (w0 := w0) (w := u) ha' hX' (k := k) (by omega) hl
    rw [hp] at h
    exact h)
  have hpM : p < M.length := by omega
  have hrM : r < M.length := by omega
  have hmr : (row M p).length = M.length := met_row hM hpM
  go_enter Tryz.func49, Tryz.ntmps49
  go_upto_region 1 with fail
  have e1 : Ext w (w.alloc (.cells #[.slice a1 M.length c1] 26)) := inferInstance
  have x0 : (w.alloc (.cells #[.slice a1 M.length c1] 26)).cell? ⟨w.heap.size, 0, none⟩ = some (.slice a1 M.length c1) := by go_simp
  obtain ⟨bx, hbx⟩ : ∃ q, q = w.heap.size := ⟨_, rfl⟩
  rw [← hbx] at x0 ⊢
  generalize w.alloc (.cells #[.slice a1 M.length c1] 26) = w1 at *
  replace hbx := hid hbx
  have e01 : Ext w0 w1 := Ext.trans ‹Ext w0 w› e1
  obtain ⟨bm, om, dm, mm, hdm, hcm, him, hlm⟩ := hR.at (w' := w1) hpM
  cases hdm
  rw [hmr] at hcm him
  obtain ⟨bp, op, hdp, hcp⟩ := him.at (w' := w1) (k := r) (by rw [hmr]; exact hrM)
  cases hdp
  obtain ⟨bq, oq, hdq, hcq⟩ := hX'.at (w' := w1) hi
  cases hdq
  rw [hr] at hcq
  have hcp' : w1.cell? ⟨bp, op + r, none⟩ = some (.int .i64 (cell M p r)) := hcp
  replace hp := hid hp
  replace hr := hid hr
  generalize cell M p r = y at *
  clear hcp him hlm hmr hM hab hXb hpb hrb hkl
  go_wp2_with (go_quiet ((go_at_call 77; exact Calls.quiet_of_same (hP.out _ inferInstance))))
  go_ret
  exact ⟨ret_int hfl.out.symm, Ext.trans e1 inferInstance⟩

set_option maxHeartbeats 800000 in
set_option maxRecDepth 100000 in
theorem l7Cost_any {v va vX vb : Value} {M : List (List Int)} {a X b : List Int} {w0 w : World} [Ext w0 w] (hm : IsMet w0 v M) (ha : IsInts w0 va a) (hXi : IsInts w0 vX X) (hb : IsInts w0 vb b) (hs : srvB M a X = true) (hc : chnB a.length X b = true) :
    Calls Tryz.prog 24 #[v, va, vX, vb] w fun e w' => e = .returned (.int .i64 (ccTo M a X b X.length)) ∧ Ext w w' := by
  have hm' := hm
  have ha' := ha
  have hX' := hXi
  obtain ⟨v1, rfl, hR⟩ := hm
  obtain ⟨a1, c1, rfl, l1⟩ := hR.form
  have hb' := hb
  obtain ⟨db, mb, rfl, lb⟩ := hb.form
  obtain ⟨da, ma, rfl, la⟩ := ha.form
  obtain ⟨dx, mx, rfl, lx⟩ := hXi.form
  obtain ⟨hM, hal, hab, hXb, hXl⟩ := srv_pts hs
  have hbd := hid (fun (t : Nat) (ht : t ≤ X.length) => ccTo_bd (t := t) hs hc ht)
  obtain ⟨k1, _, k3⟩ := chn_iff.1 hc
  have hk3 := hid k3
  have hbl := hid k1
  have hbl2 : b.length ≤ X.length ∧ X.length ≤ b.length := by omega
  have hfb := hid (fun (i k : Nat) (hi : i < X.length) (hk : k < a.length + X.length) => flC_bd hM hab hXb (i := i) (k := k) hi hk)
  replace hM := hid hM
  replace hab := hid hab
  replace hXb := hid hXb
  replace hs := hid hs
  replace hc := hid hc
  clear k1 k3
  go_enter Tryz.func24, Tryz.ntmps24
  go_upto_region 1 with fail
  have e1 : Ext w (w.alloc (.cells #[.slice a1 M.length c1] 26)) := inferInstance
  have x0 : (w.alloc (.cells #[.slice a1 M.length c1] 26)).cell? ⟨w.heap.size, 0, none⟩ = some (.slice a1 M.length c1) := by go_simp
  obtain ⟨bx, hbx⟩ : ∃ q, q = w.heap.size := ⟨_, rfl⟩
  rw [← hbx] at x0 ⊢
  generalize w.alloc (.cells #[.slice a1 M.length c1] 26) = w1 at *
  replace hbx := hid hbx
  go_wp2_with fail
  go_loopw [9, 10] (fun s q wr => ∃ i : Nat, i ≤ b.length ∧ q = .int .i64 i ∧ s = .int .i64 (ccTo M a X b i) ∧ Ext w1 wr) (fun _ q _ => b.length - (intOf q).toNat)
  case atStart => exact ⟨0, by omega, rfl, rfl, Ext.refl _⟩
  case round =>
    obtain ⟨i, hi, rfl, rfl, he⟩ := hrel
    obtain ⟨wo, rfl⟩ : ∃ y : World, y = wr := ⟨_, rfl⟩
    have ew : Ext w wo := Ext.trans e1 he
    have e0 : Ext w0 wo := Ext.trans ‹Ext w0 w› ew
    have hcb := hbd.out i (by omega)
    by_cases hlt : i < b.length
    · obtain ⟨bb, ob, hdb, hcb2⟩ := hb'.at (w' := wo) hlt
      cases hdb
      obtain ⟨p0, p1⟩ := hk3.out i hlt
      obtain ⟨k, hk⟩ := Int.eq_ofNat_of_zero_le p0
      rw [hk] at hcb2 p1
      have hiX : i < X.length := by omega
      have hss := hid (show ccTo M a X b (i + 1) = ccTo M a X b i + flC M a X i k by
        simp only [ccTo, sgTo, hk, Int.toNat_natCast])
      have hf := hfb.out i k hiX (by omega)
      have hf2 := hf.2.1 (by omega)
      have hka : k < a.length + i := by omega
      obtain ⟨S, hS⟩ : ∃ s, s = ccTo M a X b i := ⟨_, rfl⟩
      rw [← hS] at hcb ⊢
      have hss2 := hid (show ccTo M a X b (i + 1) = S + flC M a X i k by rw [hss.out, ← hS])
      replace hS := hid hS
      replace hk := hid hk
      clear hss
      go_upto_region 5 with fail
      have hSx := hid (show ∀ u, Ext wo u → u.cell? ⟨bx, 0, none⟩ = some (.slice a1 M.length c1) ∧ u.cell? ⟨bb, ob + i, none⟩ = some (.int .i64 k) from fun u e => ⟨(Ext.trans he e).cell x0, e.cell hcb2⟩)
      clear hcb2
      refine region_held_from (w0 := wo) (S := fun u => u.cell? ⟨bx, 0, none⟩ = some (.slice a1 M.length c1) ∧ u.cell? ⟨bb, ob + i, none⟩ = some (.int .i64 k)) (by kernel_rfl) hSx.out (fun wz ez hHeld0 => ?_)
      refine wpAnyH_take (i := 0) (v := .int .i64 S) rfl (by kernel_rfl) (by kernel_rfl) (by kernel_rfl) (fun _ _ _ h => h) (Or.inl ⟨by rfl, by intro wx hx; go_simp⟩) (by assumption) ?_
      try simp only [List.getElem_toArray, List.getElem_cons_zero, Act.put, List.setIfInBounds_toArray, List.set_cons_zero, List.set_cons_succ]
      refine wpAnyH_take (i := 1) (v := .agg #[.slice a1 M.length c1]) rfl (by kernel_rfl) (by kernel_rfl) (by kernel_rfl) (fun _ _ _ h => h) (Or.inl ⟨by rfl, by intro wx hx; obtain ⟨_, _⟩ := hx; go_simp⟩) (by assumption) ?_
      try simp only [List.getElem_toArray, List.getElem_cons_succ, List.getElem_cons_zero, Act.put, List.setIfInBounds_toArray, List.set_cons_zero, List.set_cons_succ]
      refine wpAnyH_take (i := 2) (v := .slice da a.length ma) rfl (by kernel_rfl) (by kernel_rfl) (by kernel_rfl) (fun _ _ _ h => h) (Or.inl ⟨by rfl, by intro wx hx; go_simp⟩) (by assumption) ?_
      try simp only [List.getElem_toArray, List.getElem_cons_succ, List.getElem_cons_zero, Act.put, List.setIfInBounds_toArray, List.set_cons_zero, List.set_cons_succ]
      refine wpAnyH_take (i := 3) (v := .slice dx X.length mx) rfl (by kernel_rfl) (by kernel_rfl) (by kernel_rfl) (fun _ _ _ h => h) (Or.inl ⟨by rfl, by intro wx hx; go_simp⟩) (by assumption) ?_
      try simp only [List.getElem_toArray, List.getElem_cons_succ, List.getElem_cons_zero, Act.put, List.setIfInBounds_toArray, List.set_cons_zero, List.set_cons_succ]
      refine wpAnyH_take (i := 4) (v := .slice (some ⟨bb, ob, none⟩) b.length mb) rfl (by kernel_rfl) (by kernel_rfl) (by kernel_rfl) (fun _ _ _ h => h) (Or.inl ⟨by rfl, by intro wx hx; go_simp⟩) (by assumption) ?_
      try simp only [List.getElem_toArray, List.getElem_cons_succ, List.getElem_cons_zero, Act.put, List.setIfInBounds_toArray, List.set_cons_zero, List.set_cons_succ]
      refine wpAnyH_take (i := 5) (v := .int .i64 i) rfl (by kernel_rfl) (by kernel_rfl) (by kernel_rfl) (fun _ _ _ h => h) (Or.inl ⟨by rfl, by intro wx hx; go_simp⟩) (by assumption) ?_
      try simp only [List.getElem_toArray, List.getElem_cons_succ, List.getElem_cons_zero, Act.put, List.setIfInBounds_toArray, List.set_cons_zero, List.set_cons_succ]
      refine wpAnyH_take (i := 6) (v := .pointer (some ⟨bb, ob + i, none⟩)) rfl (by kernel_rfl) (by kernel_rfl) (by kernel_rfl) (fun _ _ _ h => h) (Or.inl ⟨by rfl, by intro wx hx; go_simp⟩) (by assumption) ?_
      try simp only [List.getElem_toArray, List.getElem_cons_succ, List.getElem_cons_zero, Act.put, List.setIfInBounds_toArray, List.set_cons_zero, List.set_cons_succ]
      refine wpAnyH_take (i := 7) (v := .int .i64 k) rfl (by kernel_rfl) (by kernel_rfl) (by kernel_rfl) (fun _ _ _ h => h) (Or.inl ⟨by rfl, by intro wx hx; obtain ⟨_, _⟩ := hx; go_simp⟩) (by assumption) ?_
      try simp only [List.getElem_toArray, List.getElem_cons_succ, List.getElem_cons_zero, Act.put, List.setIfInBounds_toArray, List.set_cons_zero, List.set_cons_succ]
      refine wpAnyH_take (i := 8) (v := .int .i64 i) rfl (by kernel_rfl) (by kernel_rfl) (by kernel_rfl) (fun _ _ _ h => h) (Or.inl ⟨by rfl, by intro wx hx; go_simp⟩) (by assumption) ?_
      try simp only [List.getElem_toArray, List.getElem_cons_succ, List.getElem_cons_zero, Act.put, List.setIfInBounds_toArray, List.set_cons_zero, List.set_cons_succ]
      refine wpAnyH_ready (rs := [9]) (by kernel_rfl) (by simp) ?_
      refine AllReadyH.cons rfl (fun K hK => ?_) AllReadyH.nil
      go_simp
      have e0z : Ext w0 wz := Ext.trans e0 ez
      go_at_call 49
      with_reducible refine (l7Gap_any (w0 := w0) (w := wz) hm' ha' hX' hM.out hab.out hXb.out hiX hka (by omega)).mono ?_
      obtain ⟨y, hy⟩ : ∃ y, y = flC M a X i k := ⟨_, rfl⟩
      rw [← hy] at hf hf2 ⊢
      have hss3 := hid (show ccTo M a X b (i + 1) = S + y by rw [hss2.out, ← hy])
      replace hy := hid hy
      rintro e w9 ⟨rfl, e9⟩
      have eo9 : Ext wo w9 := Ext.trans ez e9
      have hS9 := hid (hSx.out w9 eo9)
      clear hHeld0 hSx
      go_wp2_with fail
      refine hK.out _ _ hS9.out (fun _ => ?_)
      clear hK K
      try simp only [List.getElem_toArray, List.getElem_cons_succ, List.getElem_cons_zero, Act.put, List.setIfInBounds_toArray, List.set_cons_zero, List.set_cons_succ]
      refine wpAnyH_take (i := 10) (v := .int .i64 (S + y)) rfl (by kernel_rfl) (by kernel_rfl) (by kernel_rfl) (fun _ _ _ h => h) (Or.inl ⟨by rfl, by intro wx hx; (go_simp; exact IntWalk.i64_in _ (by omega))⟩) (by assumption) ?_
      try simp only [List.getElem_toArray, List.getElem_cons_succ, List.getElem_cons_zero, Act.put, List.setIfInBounds_toArray, List.set_cons_zero, List.set_cons_succ]
      refine wpAnyH_take (i := 11) (v := .int .i64 (S + y)) rfl (by kernel_rfl) (by kernel_rfl) (by kernel_rfl) (fun _ _ _ h => h) (Or.inl ⟨by rfl, by intro wx hx; go_simp⟩) (by assumption) ?_
      try simp only [List.getElem_toArray, List.getElem_cons_succ, List.getElem_cons_zero, Act.put, List.setIfInBounds_toArray, List.set_cons_zero, List.set_cons_succ]
      refine wpAnyH_done (by kernel_rfl) ?_ _
      go_wp2_with fail
      go_roundw
      case rel => exact ⟨i + 1, by omega, by go_num, by rw [hss3.out], Ext.trans he eo9⟩
      case measure => simp [intOf]; omega
    · have hil : i = X.length := by omega
      have hfin := hid (show ccTo M a X b X.length = ccTo M a X b i by rw [hil])
      replace hil := hid hil
      clear hcb
      go_wp2_with fail
      go_ret
      exact ⟨ret_int hfin.out.symm, ew⟩

set_option maxHeartbeats 800000 in
set_option maxRecDepth 100000 in
theorem l7Chained_any {va vX vb : Value} {a X b : List Int} {w0 w : World} [Ext w0 w] (ha : IsInts w0 va a) (hXi : IsInts w0 vX X) (hb : IsInts w0 vb b) (hal : a.length ≤ 3) (hXl : X.length ≤ 60) :
    Calls Tryz.prog 23 #[va, vX, vb] w fun e w' => e = .returned (.bool (chnB a.length X b)) ∧ Ext w w' := by
  obtain ⟨da, ma, rfl, la⟩ := ha.form
  obtain ⟨dx, mx, rfl, lx⟩ := hXi.form
  have hb' := hb
  obtain ⟨db, mb, rfl, lb⟩ := hb.form
  by_cases hl : b.length = X.length
  · have g1 : ((b.length : Int) != (X.length : Int)) = false := by simp; omega
    have hbl : b.length ≤ 60 := by omega
    have hyes := hid (fun (h : ∀ i : Nat, i < b.length → 0 ≤ nth b i ∧ nth b i < (a.length : Int) + i) (h2 : ∀ i, i < b.length → nth b i ∉ b.take i) => show chnB a.length X b = true from chn_iff.2 ⟨hl, difL_full.2 h2, h⟩)
    have hno := hid (fun (i : Nat) (hi : i < b.length) (h : ¬ (0 ≤ nth b i ∧ nth b i < (a.length : Int) + i)) => show chnB a.length X b = false from chn_not fun hc => h (hc.2.2 i hi))
    have hno2 := hid (fun (i : Nat) (hi : i < b.length) (h : nth b i ∈ b.take i) => show chnB a.length X b = false from chn_not fun hc => by
      have := difL_less hi h
      omega)
    replace hl := hid hl
    go_enter Tryz.func23, Tryz.ntmps23
    go_wp2_with fail
    go_loopw [7] (fun q wr => ∃ i : Nat, i ≤ b.length ∧ q = .int .i64 i ∧ Hid ((∀ j : Nat, j < i → 0 ≤ nth b j ∧ nth b j < (a.length : Int) + j) ∧ ∀ j, j < i → nth b j ∉ b.take j) ∧ Ext w wr) (fun q _ => b.length - (intOf q).toNat)
    case atStart => exact ⟨0, by omega, rfl, ⟨fun j hj => by omega, fun j hj => by omega⟩, Ext.refl _⟩
    case round =>
      obtain ⟨i, hi, rfl, hok, he⟩ := hrel
      obtain ⟨wo, rfl⟩ : ∃ y : World, y = wr := ⟨_, rfl⟩
      have e0 : Ext w0 wo := Ext.trans ‹Ext w0 w› he
      by_cases hlt : i < b.length
      · obtain ⟨bb, ob, hdb, hcb⟩ := hb'.at (w' := wo) hlt
        cases hdb
        have hin : inB (nth b i) 0 ((a.length : Int) + i - 1) = decide (0 ≤ nth b i ∧ nth b i < (a.length : Int) + i) := by
          unfold inB
          congr 1
          apply propext
          omega
        have hcut := hb'.cut (k := i) (by omega)
        have hcap := hb'.cap
        have hw1 : IntKind.i64.wrap ((a.length : Int) + (i : Int)) = (a.length : Int) + (i : Int) := IntWalk.i64_in _ (by omega)
        have hw2 : IntKind.i64.wrap ((a.length : Int) + (i : Int) - 1) = (a.length : Int) + (i : Int) - 1 := IntWalk.i64_in _ (by omega)
        replace hw1 := hid hw1
        replace hw2 := hid hw2
        by_cases hg : 0 ≤ nth b i ∧ nth b i < (a.length : Int) + i
        · rw [decide_eq_true hg] at hin
          have hC := hid (show ∀ u, Calls Tryz.prog 48 #[.int .i64 (nth b i), .int .i64 0, .int .i64 ((a.length : Int) + i - 1)] u fun e w' => e = .returned (.bool true) ∧ w' = u from fun u => (l1In_any _ _ _ u).mono fun _ _ ⟨h1, h2⟩ => ⟨by rw [h1, hin], h2.symm⟩)
          have hH := hid (show ∀ u, Ext w0 u → Calls Tryz.prog 15 #[.slice (some ⟨bb, ob, none⟩) i mb, .int .i64 (nth b i)] u fun e w' => e = .returned (.bool (hasB (b.take i) (nth b i))) ∧ w' = u from fun u e => (l1Has_any (w0 := w0) (w := u) hcut).mono fun _ _ ⟨h1, h2⟩ => ⟨h1, h2.symm⟩)
          replace hin := hid hin
          have hg2 := hid hg
          cases hh : hasB (b.take i) (nth b i) with
          | true =>
            rw [hh] at hH
            have hfin := hid (hno2.out i hlt (hasB_true.1 hh))
            replace hh := hid hh
            clear hg hcut
            generalize nth b i = z at *
            have hv1 := hw1.out
            have hv2 := hw2.out
            go_wp2_with (go_quiet (first | (go_at_call 48; exact Calls.quiet_of_same (hC.out _)) | (go_at_call 15; exact Calls.quiet_of_same (hH.out _ inferInstance))))
            clear hv1 hv2
            go_ret
            exact ⟨ret_bool hfin.out.symm, Ext.trans he inferInstance⟩
          | false =>
            rw [hh] at hH
            have hok2 := hid (show (∀ j : Nat, j < i + 1 → 0 ≤ nth b j ∧ nth b j < (a.length : Int) + j) ∧ ∀ j, j < i + 1 → nth b j ∉ b.take j from ⟨fun j hj => by
              by_cases e : j = i
              · subst e; exact hg
              · exact hok.out.1 j (by omega), fun j hj => by
              by_cases e : j = i
              · subst e; exact hasB_false.1 hh
              · exact hok.out.2 j (by omega)⟩)
            replace hh := hid hh
            clear hg hcut
            obtain ⟨z, hz⟩ : ∃ z, z = nth b i := ⟨_, rfl⟩
            rw [← hz] at hcb hC hH
            replace hz := hid hz
            have hv1 := hw1.out
            have hv2 := hw2.out
            go_wp2_with (go_quiet (first | (go_at_call 48; exact Calls.quiet_of_same (hC.out _)) | (go_at_call 15; exact Calls.quiet_of_same (hH.out _ inferInstance))))
            clear hv1 hv2
            go_roundw
            case rel => exact ⟨i + 1, by omega, by go_num, hok2.out, Ext.trans he inferInstance⟩
            case measure => simp [intOf]; omega
        · rw [decide_eq_false hg] at hin
          have hC := hid (show ∀ u, Calls Tryz.prog 48 #[.int .i64 (nth b i), .int .i64 0, .int .i64 ((a.length : Int) + i - 1)] u fun e w' => e = .returned (.bool false) ∧ w' = u from fun u => (l1In_any _ _ _ u).mono fun _ _ ⟨h1, h2⟩ => ⟨by rw [h1, hin], h2.symm⟩)
          have hfin := hid (hno.out i hlt hg)
          replace hin := hid hin
          replace hg := hid hg
          clear hcut
          have hv1 := hw1.out
          have hv2 := hw2.out
          go_wp2_with (go_quiet ((go_at_call 48; exact Calls.quiet_of_same (hC.out _))))
          clear hv1 hv2
          go_ret
          exact ⟨ret_bool hfin.out.symm, Ext.trans he inferInstance⟩
      · have hil : i = b.length := by omega
        have hfin := hid (hyes.out (fun j hj => hok.out.1 j (by omega)) (fun j hj => hok.out.2 j (by omega)))
        replace hil := hid hil
        go_wp2_with fail
        go_ret
        exact ⟨ret_bool hfin.out.symm, he⟩
  · have hfin := hid (show chnB a.length X b = false from chn_not fun hc => hl hc.1)
    have g1 : ((b.length : Int) != (X.length : Int)) = true := by simp; omega
    replace hl := hid hl
    go_enter Tryz.func23, Tryz.ntmps23
    go_wp2_with fail
    go_ret
    exact ⟨ret_bool hfin.out.symm, Ext.refl _⟩

set_option maxHeartbeats 800000 in
set_option maxRecDepth 100000 in
theorem specCC_any {v va vX vb : Value} {M : List (List Int)} {a X b : List Int} {w0 w : World} [Ext w0 w] (hm : IsMet w0 v M) (ha : IsInts w0 va a) (hXi : IsInts w0 vX X) (hb : IsInts w0 vb b) :
    Calls Tryz.prog 7 #[v, va, vX, vb] w fun e w' => e = .returned (.tuple #[.int .i64 (ccR M a X b), .bool (ccOk M a X b)]) ∧ Ext w w' := by
  have hm' := hm
  obtain ⟨v1, rfl, hR⟩ := hm
  obtain ⟨a1, c1, rfl, l1⟩ := hR.form
  go_enter Tryz.func7, Tryz.ntmps7
  go_upto_region 1 with fail
  have e1 : Ext w (w.alloc (.cells #[.slice a1 M.length c1] 26)) := inferInstance
  have x0 : (w.alloc (.cells #[.slice a1 M.length c1] 26)).cell? ⟨w.heap.size, 0, none⟩ = some (.slice a1 M.length c1) := by go_simp
  obtain ⟨bx, hbx⟩ : ∃ q, q = w.heap.size := ⟨_, rfl⟩
  rw [← hbx] at x0 ⊢
  generalize w.alloc (.cells #[.slice a1 M.length c1] 26) = w1 at *
  replace hbx := hid hbx
  have e01 : Ext w0 w1 := Ext.trans ‹Ext w0 w› e1
  cases hM : metB M with
  | false =>
    have hr := hid (show ccOk M a X b = false by rw [ccOk, srvB, hM]; rfl)
    have hv := hid (show ccR M a X b = 0 by rw [ccR, hr.out]; rfl)
    replace hM := hid hM
    go_wp2_with fail
    with_reducible refine (l6Good_any (w0 := w0) hm').mono ?_
    rw [hM.out]
    rintro e w2 ⟨rfl, e2⟩
    go_wp2_with fail
    go_ret2
    rw [hr.out, hv.out]
    exact ⟨rfl, Ext.trans e1 e2⟩
  | true =>
    replace hM := hid hM
    cases hs : srvB M a X with
    | false =>
      have hr := hid (show ccOk M a X b = false by rw [ccOk, hs]; rfl)
      have hv := hid (show ccR M a X b = 0 by rw [ccR, hr.out]; rfl)
      replace hs := hid hs
      go_wp2_with fail
      with_reducible refine (l6Good_any (w0 := w0) hm').mono ?_
      rw [hM.out]
      rintro e w2 ⟨rfl, e2⟩
      have x2 := e2.cell x0
      have e02 : Ext w0 w2 := Ext.trans e01 e2
      go_wp2_with fail
      with_reducible refine (l6Start_any (w0 := w0) (w := w2) hm' ha hXi).mono ?_
      rw [hs.out]
      rintro e w3 ⟨rfl, e3⟩
      go_wp2_with fail
      go_ret2
      rw [hr.out, hv.out]
      exact ⟨rfl, Ext.trans e1 (Ext.trans e2 e3)⟩
    | true =>
      obtain ⟨_, hal, hab, hXb, hXl⟩ := srv_pts hs
      have hs2 := hid hs
      clear hs hab hXb
      cases hc : chnB a.length X b with
      | false =>
        have hr := hid (show ccOk M a X b = false by rw [ccOk, hs2.out, hc]; rfl)
        have hv := hid (show ccR M a X b = 0 by rw [ccR, hr.out]; rfl)
        replace hc := hid hc
        go_wp2_with fail
        with_reducible refine (l6Good_any (w0 := w0) hm').mono ?_
        rw [hM.out]
        rintro e w2 ⟨rfl, e2⟩
        have x2 := e2.cell x0
        have e02 : Ext w0 w2 := Ext.trans e01 e2
        go_wp2_with fail
        with_reducible refine (l6Start_any (w0 := w0) (w := w2) hm' ha hXi).mono ?_
        rw [hs2.out]
        rintro e w3 ⟨rfl, e3⟩
        have x3 := e3.cell x2
        have e03 : Ext w0 w3 := Ext.trans e02 e3
        go_wp2_with fail
        with_reducible refine (l7Chained_any (w0 := w0) (w := w3) ha hXi hb hal.2 hXl).mono ?_
        rw [hc.out]
        rintro e w4 ⟨rfl, e4⟩
        go_wp2_with fail
        go_ret2
        rw [hr.out, hv.out]
        exact ⟨rfl, Ext.trans e1 (Ext.trans e2 (Ext.trans e3 e4))⟩
      | true =>
        have hr := hid (show ccOk M a X b = true by rw [ccOk, hs2.out, hc]; rfl)
        have hv := hid (show ccR M a X b = ccTo M a X b X.length by rw [ccR, hr.out]; rfl)
        replace hc := hid hc
        go_wp2_with fail
        with_reducible refine (l6Good_any (w0 := w0) hm').mono ?_
        rw [hM.out]
        rintro e w2 ⟨rfl, e2⟩
        have x2 := e2.cell x0
        have e02 : Ext w0 w2 := Ext.trans e01 e2
        go_wp2_with fail
        with_reducible refine (l6Start_any (w0 := w0) (w := w2) hm' ha hXi).mono ?_
        rw [hs2.out]
        rintro e w3 ⟨rfl, e3⟩
        have x3 := e3.cell x2
        have e03 : Ext w0 w3 := Ext.trans e02 e3
        go_wp2_with fail
        with_reducible refine (l7Chained_any (w0 := w0) (w := w3) ha hXi hb hal.2 hXl).mono ?_
        rw [hc.out]
        rintro e w4 ⟨rfl, e4⟩
        have x4 := e4.cell x3
        have e04 : Ext w0 w4 := Ext.trans e03 e4
        go_wp2_with fail
        with_reducible refine (l7Cost_any (w0 := w0) (w := w4) hm' ha hXi hb hs2.out hc.out).mono ?_
        rintro e w5 ⟨rfl, e5⟩
        go_wp2_with fail
        go_ret2
        rw [hr.out, hv.out]
        exact ⟨rfl, Ext.trans e1 (Ext.trans e2 (Ext.trans e3 (Ext.trans e4 e5)))⟩
end Go.Proofs.YtllfchcocgdcjaaGreat
