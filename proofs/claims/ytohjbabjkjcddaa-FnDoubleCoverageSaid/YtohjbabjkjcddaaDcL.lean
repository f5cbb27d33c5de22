/- Double coverage walked: the least cost of the reference. -/
import Derived.Test.YtohjbabjkjcddaaDcU
import Derived.Test.YtohjbabjkjcddaaSrs
import Derived.Test.YtohjbabjkjcddaaStep
namespace Go.Proofs.Ytohjbabjkjcddaa
open Go.RowKit

theorem most_any (a b : Int) (w : World) :
    Calls Try.prog 59 #[.int .i64 a, .int .i64 b] w fun e w' => e = .returned (.int .i64 (max a b)) ∧ w = w' := by
  by_cases h : a > b
  · have hr := hid (show max a b = a by omega)
    go_enter Try.func59, Try.ntmps59
    go_wp2
    go_ret
    exact ⟨ret_int hr.out.symm, rfl⟩
  · have hr := hid (show max a b = b by omega)
    go_enter Try.func59, Try.ntmps59
    go_wp2
    go_ret
    exact ⟨ret_int hr.out.symm, rfl⟩
theorem vU_le : ∀ (rs : List Int) {a : List Int}, 0 < a.length → (∀ x ∈ rs, 0 ≤ x ∧ x ≤ 99) → (∀ x ∈ a, 0 ≤ x ∧ x ≤ 99) → vU rs a ≤ 99 * (rs.length : Int)
  | [], _, _, _, _ => Int.le_refl _
  | r :: rs, a, h0, hr, ha => by
    have h1 := vU_step (r := r) (rs := rs) h0
    have hr0 := hr r (.head _)
    have h2 := vU_le rs (a := a.set 0 r) (by simpa using h0) (fun x hx => hr x (.tail _ hx)) (fun x hx => by
      rcases List.mem_or_eq_of_mem_set hx with h | h
      · exact ha x h
      · rw [h]; exact hr0)
    have h3 := ha _ (nth_mem h0)
    have h4 : dst (nth a 0) r ≤ 99 := by unfold dst; omega
    rw [List.length_cons]
    omega
/-- the least so far -/
def lfF (r : Int) (rs a : List Int) (k : Nat) : Int := dst (nth a k) r + vU rs (a.set k r)
def lfTo (r : Int) (rs a : List Int) : Nat → Int
  | 0 => -1
  | k + 1 => mn (lfF r rs a) k
theorem lfF_nn (r : Int) (rs a : List Int) (k : Nat) : 0 ≤ lfF r rs a k := by
  have := dst_nn (nth a k) r
  have := vU_nn rs (a.set k r)
  unfold lfF; omega
theorem mn_nn {f : Nat → Int} (h : ∀ k, 0 ≤ f k) (n : Nat) : 0 ≤ mn f n := by
  obtain ⟨k, _, e⟩ := mn_at f n
  rw [e]; exact h k
theorem lfTo_step {r : Int} {rs a : List Int} (k : Nat) : lfTo r rs a (k + 1) = if lfTo r rs a k < 0 ∨ lfF r rs a k < lfTo r rs a k then lfF r rs a k else lfTo r rs a k := by
  cases k with
  | zero => rfl
  | succ k =>
    have h := mn_nn (lfF_nn r rs a) k
    show min (mn (lfF r rs a) k) (lfF r rs a (k + 1)) = if mn (lfF r rs a) k < 0 ∨ lfF r rs a (k + 1) < mn (lfF r rs a) k then lfF r rs a (k + 1) else mn (lfF r rs a) k
    split <;> omega
theorem lfTo_in {r : Int} {rs a : List Int} (hr : 0 ≤ r ∧ r ≤ 99) (h0 : 0 < a.length) (hrs : ∀ x ∈ rs, 0 ≤ x ∧ x ≤ 99) (ha : ∀ x ∈ a, 0 ≤ x ∧ x ≤ 99) {k : Nat} (_hk : k ≤ a.length) : -1 ≤ lfTo r rs a k ∧ lfTo r rs a k ≤ 99 * (rs.length : Int) + 99 := by
  cases k with
  | zero => exact ⟨Int.le_refl _, by show (-1 : Int) ≤ _; omega⟩
  | succ k =>
    have h1 := mn_nn (lfF_nn r rs a) k
    have h2 := mn_le (f := lfF r rs a) (n := k) (k := 0) (Nat.zero_le _)
    have h3 := ha _ (nth_mem h0)
    have h4 := vU_le rs (a := a.set 0 r) (by simpa using h0) hrs (fun x hx => by
      rcases List.mem_or_eq_of_mem_set hx with h | h
      · exact ha x h
      · rw [h]; exact hr)
    have h5 : lfF r rs a 0 ≤ 99 * (rs.length : Int) + 99 := by unfold lfF dst; omega
    show -1 ≤ mn (lfF r rs a) k ∧ mn (lfF r rs a) k ≤ _
    omega
set_option maxHeartbeats 3200000 in
set_option maxRecDepth 100000 in
theorem l6Least_any {vX : Value} {X : List Int} (hXb : ∀ x ∈ X, 0 ≤ x ∧ x ≤ 99) (hXl : X.length ≤ 60) : ∀ (n i : Nat), i + n = X.length → ∀ (w0 w : World) [Ext w0 w] (v : Value) (A : List Int), IsInts w0 vX X → IsInts w0 v A → 1 ≤ A.length ∧ A.length ≤ 3 → (∀ x ∈ A, 0 ≤ x ∧ x ≤ 99) →
    Calls Try.prog 48 #[v, vX, .int .i64 i] w fun e w' => e = .returned (.int .i64 (vU (X.drop i) A)) ∧ Ext w w'
  | 0, i, hi, w0, w, _, v, A, hX, hA, hl, hb => by
    obtain ⟨dX, cX, rfl, lX⟩ := hX.form
    obtain ⟨dA, cA, rfl, lA⟩ := hA.form
    have hi' : (i : Int) = (X.length : Int) := by omega
    have hie : ((i : Int) == (X.length : Int)) = true := beq_iff_eq.2 hi'
    have hr := hid (show vU (X.drop i) A = 0 by rw [List.drop_eq_nil_of_le (by omega)]; rfl)
    replace hi := hid hi
    replace hi' := hid hi'
    go_enter Try.func48, Try.ntmps48
    go_wp2_with fail
    go_ret
    exact ⟨ret_int hr.out.symm, Ext.refl _⟩
  | n + 1, i, hi, w0, w, _, v, A, hX, hA, hl, hb => by
    have ih := l6Least_any (vX := vX) hXb hXl n (i + 1) (by omega)
    obtain ⟨dX, cX, rfl, lX⟩ := hX.form
    obtain ⟨dA, cA, rfl, lA⟩ := hA.form
    have hlt : i < X.length := by omega
    have hie : ((i : Int) == (X.length : Int)) = false := beq_eq_false_iff_ne.2 (by omega)
    have hlt' : (i : Int) < (X.length : Int) := by omega
    have hdr : X.drop i = nth X i :: X.drop (i + 1) := by
      rw [List.drop_eq_getElem_cons hlt]
      congr 1
      simp [nth, hlt]
    have hrb := hXb _ (nth_mem hlt)
    have hrest : ∀ x ∈ X.drop (i + 1), 0 ≤ x ∧ x ≤ 99 := fun x hx => hXb x (List.mem_of_mem_drop hx)
    have hrl : (X.drop (i + 1)).length ≤ 60 := by rw [List.length_drop]; omega
    obtain ⟨bX, oX, hdX, hcX⟩ := hX.at (w' := w) hlt
    cases hdX
    obtain ⟨r, hrd⟩ : ∃ z, z = nth X i := ⟨_, rfl⟩
    rw [← hrd] at hdr hrb hcX
    obtain ⟨rs, hrs⟩ : ∃ z, z = X.drop (i + 1) := ⟨_, rfl⟩
    rw [← hrs] at hdr hrest hrl ih
    have hcast := hid (show (i : Int) + 1 = ((i + 1 : Nat) : Int) by omega)
    replace hdr := hid hdr
    replace ih := hid ih
    replace hi := hid hi
    replace hrd := hid hrd
    replace hrs := hid hrs
    go_enter Try.func48, Try.ntmps48
    go_wp2_with fail
    refine (l1Has_any (w0 := w0) hA).mono ?_
    rintro e w1 ⟨rfl, rfl⟩
    by_cases hc : r ∈ A
    · have hcc : hasB A r = true := hasB_true.2 hc
      have hres := hid (show vU (X.drop i) A = vU rs A by rw [hdr.out, vU_has hc])
      have hc1 := ih.out w0 w _ A hX hA hl hb
      rw [hcc]
      rw [← hcast.out] at hc1
      replace hc := hid hc
      replace hc1 := hid hc1
      go_wp2_with fail
      refine hc1.out.mono ?_
      rintro e w2 ⟨rfl, e2⟩
      go_wp2_with fail
      go_ret
      exact ⟨ret_int hres.out.symm, e2⟩
    · have hcc : hasB A r = false := hasB_false.2 hc
      rw [hcc]
      replace hc := hid hc
      go_wp2_with fail
      go_loopw [7, 8] (fun s j wr => ∃ k : Nat, k ≤ A.length ∧ j = .int .i64 k ∧ s = .int .i64 (lfTo r rs A k) ∧ Ext w wr) (fun _ j _ => A.length - (intOf j).toNat)
      case atStart => exact ⟨0, by omega, rfl, rfl, Ext.refl _⟩
      case round =>
        obtain ⟨k, hk, rfl, rfl, he⟩ := hrel
        obtain ⟨wk, rfl⟩ : ∃ y : World, y = wr := ⟨_, rfl⟩
        have e0k : Ext w0 wk := Ext.trans ‹Ext w0 w› he
        have hin1 := lfTo_in (a := A) hrb (by omega) hrest hb hk
        by_cases hkl : k < A.length
        · have hkl' : (k : Int) < (A.length : Int) := by omega
          have hst := hid (lfTo_step (r := r) (rs := rs) (a := A) k)
          have hfn := lfF_nn r rs A k
          have hAb := hb _ (nth_mem hkl)
          have hset : ∀ x ∈ A.set k r, 0 ≤ x ∧ x ≤ 99 := fun x hx => by
            rcases List.mem_or_eq_of_mem_set hx with h | h
            · exact hb x h
            · rw [h]; exact hrb
          have hvle := vU_le rs (a := A.set k r) (by simpa using (show 0 < A.length by omega)) hrest hset
          have hvnn := vU_nn rs (A.set k r)
          have hff : lfF r rs A k = max (nth A k - r) (r - nth A k) + vU rs (A.set k r) := by unfold lfF dst; omega
          have hvs := hid (show vU rs (sortL (A.set k r)) = vU rs (A.set k r) from vU_perm rs (sortL_perm _) (by rw [sortL_len]; simp; omega))
          obtain ⟨Z, hZ⟩ : ∃ z, z = lfTo r rs A k := ⟨_, rfl⟩
          obtain ⟨F, hF⟩ : ∃ z, z = lfF r rs A k := ⟨_, rfl⟩
          rw [← hZ] at hin1 hst ⊢
          rw [← hF] at hst hfn hff
          replace hZ := hid hZ
          replace hF := hid hF
          have hset' := hid hset
          go_wp2_with fail
          with_reducible refine (l1Own_any (w0 := w0) (w := wk) hA).mono ?_
          rintro e w3 ⟨d3, m3, rfl, own3, e3⟩
          obtain ⟨g, rfl⟩ := own3.at (j := 0) (by omega)
          have own3' : Own w3 wk.heap.size [rw1 g A.length m3 A] := own3
          have hgB : wk.heap.size ≤ g := own3.lt.1
          obtain ⟨c1, f1⟩ := own_at1 own3' rfl hkl
          have own4 := own_set1 own3' k r
          have b4 : Below wk.heap.size wk (w3.setCell ⟨g, k, none⟩ (.int .i64 r)) := e3.below.setCell hgB _
          have e4 : Ext wk (w3.setCell ⟨g, k, none⟩ (.int .i64 r)) := ⟨b4⟩
          have hX3 := (Ext.trans he e3).cell hcX
          have own4' := own4
          replace own4 := hid own4
          have hnext : IsInts (w3.setCell ⟨g, k, none⟩ (.int .i64 r)) (.slice (some ⟨g, 0, none⟩) A.length m3) (A.set k r) := by
            have h := own_in1 own4' (by simp)
            have h2 := h.reads (e := 3) (by unfold Short; simp; omega) (fun x hx => by have := hset'.out x hx; unfold I64; omega)
            exact h2
          replace b4 := hid b4
          have e0b : Ext w0 (w3.setCell ⟨g, k, none⟩ (.int .i64 r)) := Ext.trans e0k e4
          obtain ⟨bY, oY, hdY, hcY⟩ := hX.at (w' := w3.setCell ⟨g, k, none⟩ (.int .i64 r)) hlt
          cases hdY
          obtain ⟨bA, oA, hdA, hcA⟩ := hA.at (w' := w3.setCell ⟨g, k, none⟩ (.int .i64 r)) hkl
          cases hdA
          rw [← hrd.out] at hcY
          obtain ⟨x, hx⟩ : ∃ z, z = nth A k := ⟨_, rfl⟩
          obtain ⟨V, hV⟩ : ∃ z, z = vU rs (A.set k r) := ⟨_, rfl⟩
          obtain ⟨D, hD⟩ : ∃ z, z = max (x - r) (r - x) := ⟨_, rfl⟩
          rw [← hx] at hcA hff hAb c1
          rw [← hV] at hff hvle hvnn hvs
          rw [← hD] at hff
          have hDb : 0 ≤ D ∧ D ≤ 99 := by rw [hD]; omega
          have hS := fun (u : World) (hu : Ext (w3.setCell ⟨g, k, none⟩ (.int .i64 r)) u) => l6Sort_any (w0 := w3.setCell ⟨g, k, none⟩ (.int .i64 r)) (w := u) hnext (by simp; omega)
          have hslen : (sortL (A.set k r)).length = A.length := by rw [sortL_len]; simp
          have hsb : ∀ y ∈ sortL (A.set k r), 0 ≤ y ∧ y ≤ 99 := fun y hy => hset'.out y ((sortL_perm _).mem_iff.1 hy)
          have hih2 := fun (u : World) (y : Value) (hu : Ext w0 u) (hy : IsInts u y (sortL (A.set k r))) => ih.out u u y (sortL (A.set k r)) hX.ext hy (by omega) hsb
          rw [hvs.out, ← hcast.out] at hih2
          replace hx := hid hx
          replace hV := hid hV
          replace hD := hid hD
          replace hS := hid hS
          replace hih2 := hid hih2
          replace hsb := hid hsb
          have hslen' := hid hslen
          clear hslen
          go_upto_region 11 with fail
          generalize w3.setCell ⟨g, k, none⟩ (.int .i64 r) = wb at *
          refine region_held_from (w0 := wb) (S := fun u => Ext wb u ∧ u.cell? ⟨bA, oA + k, none⟩ = some (.int .i64 x) ∧ u.cell? ⟨bX, oX + i, none⟩ = some (.int .i64 r)) (by kernel_rfl) (fun u e => ⟨e, e.cell hcA, e.cell hcY⟩) (fun wd ed hHeld0 => ?_)
          refine wpAnyH_take (i := 0) (v := .slice (some ⟨bA, oA, none⟩) A.length cA) rfl (by kernel_rfl) (by kernel_rfl) (by kernel_rfl) (fun _ _ _ h => h) (Or.inl ⟨by rfl, by intro wx hx; go_simp⟩) (by assumption) ?_
          try simp only [List.getElem_toArray, List.getElem_cons_zero, Act.put, List.setIfInBounds_toArray, List.set_cons_zero, List.set_cons_succ]
          refine wpAnyH_take (i := 1) (v := .int .i64 k) rfl (by kernel_rfl) (by kernel_rfl) (by kernel_rfl) (fun _ _ _ h => h) (Or.inl ⟨by rfl, by intro wx hx; go_simp⟩) (by assumption) ?_
          try simp only [List.getElem_toArray, List.getElem_cons_succ, List.getElem_cons_zero, Act.put, List.setIfInBounds_toArray, List.set_cons_zero, List.set_cons_succ]
          refine wpAnyH_take (i := 2) (v := .pointer (some ⟨bA, oA + k, none⟩)) rfl (by kernel_rfl) (by kernel_rfl) (by kernel_rfl) (fun _ _ _ h => h) (Or.inl ⟨by rfl, by intro wx hx; go_simp⟩) (by assumption) ?_
          try simp only [List.getElem_toArray, List.getElem_cons_succ, List.getElem_cons_zero, Act.put, List.setIfInBounds_toArray, List.set_cons_zero, List.set_cons_succ]
          refine wpAnyH_take (i := 3) (v := .int .i64 x) rfl (by kernel_rfl) (by kernel_rfl) (by kernel_rfl) (fun _ _ _ h => h) (Or.inl ⟨by rfl, by intro wx hx; obtain ⟨_, _, _⟩ := hx; go_simp⟩) (by assumption) ?_
          try simp only [List.getElem_toArray, List.getElem_cons_succ, List.getElem_cons_zero, Act.put, List.setIfInBounds_toArray, List.set_cons_zero, List.set_cons_succ]
          refine wpAnyH_take (i := 4) (v := .slice (some ⟨bX, oX, none⟩) X.length cX) rfl (by kernel_rfl) (by kernel_rfl) (by kernel_rfl) (fun _ _ _ h => h) (Or.inl ⟨by rfl, by intro wx hx; go_simp⟩) (by assumption) ?_
          try simp only [List.getElem_toArray, List.getElem_cons_succ, List.getElem_cons_zero, Act.put, List.setIfInBounds_toArray, List.set_cons_zero, List.set_cons_succ]
          refine wpAnyH_take (i := 5) (v := .int .i64 i) rfl (by kernel_rfl) (by kernel_rfl) (by kernel_rfl) (fun _ _ _ h => h) (Or.inl ⟨by rfl, by intro wx hx; go_simp⟩) (by assumption) ?_
          try simp only [List.getElem_toArray, List.getElem_cons_succ, List.getElem_cons_zero, Act.put, List.setIfInBounds_toArray, List.set_cons_zero, List.set_cons_succ]
          refine wpAnyH_take (i := 6) (v := .pointer (some ⟨bX, oX + i, none⟩)) rfl (by kernel_rfl) (by kernel_rfl) (by kernel_rfl) (fun _ _ _ h => h) (Or.inl ⟨by rfl, by intro wx hx; go_simp⟩) (by assumption) ?_
          try simp only [List.getElem_toArray, List.getElem_cons_succ, List.getElem_cons_zero, Act.put, List.setIfInBounds_toArray, List.set_cons_zero, List.set_cons_succ]
          refine wpAnyH_take (i := 7) (v := .int .i64 r) rfl (by kernel_rfl) (by kernel_rfl) (by kernel_rfl) (fun _ _ _ h => h) (Or.inl ⟨by rfl, by intro wx hx; obtain ⟨_, _, _⟩ := hx; go_simp⟩) (by assumption) ?_
          try simp only [List.getElem_toArray, List.getElem_cons_succ, List.getElem_cons_zero, Act.put, List.setIfInBounds_toArray, List.set_cons_zero, List.set_cons_succ]
          refine wpAnyH_take (i := 8) (v := .int .i64 (x - r)) rfl (by kernel_rfl) (by kernel_rfl) (by kernel_rfl) (fun _ _ _ h => h) (Or.inl ⟨by rfl, by intro wx hx; (go_simp; exact IntWalk.i64_in _ (by omega))⟩) (by assumption) ?_
          try simp only [List.getElem_toArray, List.getElem_cons_succ, List.getElem_cons_zero, Act.put, List.setIfInBounds_toArray, List.set_cons_zero, List.set_cons_succ]
          refine wpAnyH_take (i := 9) (v := .slice (some ⟨bX, oX, none⟩) X.length cX) rfl (by kernel_rfl) (by kernel_rfl) (by kernel_rfl) (fun _ _ _ h => h) (Or.inl ⟨by rfl, by intro wx hx; go_simp⟩) (by assumption) ?_
          try simp only [List.getElem_toArray, List.getElem_cons_succ, List.getElem_cons_zero, Act.put, List.setIfInBounds_toArray, List.set_cons_zero, List.set_cons_succ]
          refine wpAnyH_take (i := 10) (v := .int .i64 i) rfl (by kernel_rfl) (by kernel_rfl) (by kernel_rfl) (fun _ _ _ h => h) (Or.inl ⟨by rfl, by intro wx hx; go_simp⟩) (by assumption) ?_
          try simp only [List.getElem_toArray, List.getElem_cons_succ, List.getElem_cons_zero, Act.put, List.setIfInBounds_toArray, List.set_cons_zero, List.set_cons_succ]
          refine wpAnyH_take (i := 11) (v := .pointer (some ⟨bX, oX + i, none⟩)) rfl (by kernel_rfl) (by kernel_rfl) (by kernel_rfl) (fun _ _ _ h => h) (Or.inl ⟨by rfl, by intro wx hx; go_simp⟩) (by assumption) ?_
          try simp only [List.getElem_toArray, List.getElem_cons_succ, List.getElem_cons_zero, Act.put, List.setIfInBounds_toArray, List.set_cons_zero, List.set_cons_succ]
          refine wpAnyH_take (i := 12) (v := .int .i64 r) rfl (by kernel_rfl) (by kernel_rfl) (by kernel_rfl) (fun _ _ _ h => h) (Or.inl ⟨by rfl, by intro wx hx; obtain ⟨_, _, _⟩ := hx; go_simp⟩) (by assumption) ?_
          try simp only [List.getElem_toArray, List.getElem_cons_succ, List.getElem_cons_zero, Act.put, List.setIfInBounds_toArray, List.set_cons_zero, List.set_cons_succ]
          refine wpAnyH_take (i := 13) (v := .slice (some ⟨bA, oA, none⟩) A.length cA) rfl (by kernel_rfl) (by kernel_rfl) (by kernel_rfl) (fun _ _ _ h => h) (Or.inl ⟨by rfl, by intro wx hx; go_simp⟩) (by assumption) ?_
          try simp only [List.getElem_toArray, List.getElem_cons_succ, List.getElem_cons_zero, Act.put, List.setIfInBounds_toArray, List.set_cons_zero, List.set_cons_succ]
          refine wpAnyH_take (i := 14) (v := .int .i64 k) rfl (by kernel_rfl) (by kernel_rfl) (by kernel_rfl) (fun _ _ _ h => h) (Or.inl ⟨by rfl, by intro wx hx; go_simp⟩) (by assumption) ?_
          try simp only [List.getElem_toArray, List.getElem_cons_succ, List.getElem_cons_zero, Act.put, List.setIfInBounds_toArray, List.set_cons_zero, List.set_cons_succ]
          refine wpAnyH_take (i := 15) (v := .pointer (some ⟨bA, oA + k, none⟩)) rfl (by kernel_rfl) (by kernel_rfl) (by kernel_rfl) (fun _ _ _ h => h) (Or.inl ⟨by rfl, by intro wx hx; go_simp⟩) (by assumption) ?_
          try simp only [List.getElem_toArray, List.getElem_cons_succ, List.getElem_cons_zero, Act.put, List.setIfInBounds_toArray, List.set_cons_zero, List.set_cons_succ]
          refine wpAnyH_take (i := 16) (v := .int .i64 x) rfl (by kernel_rfl) (by kernel_rfl) (by kernel_rfl) (fun _ _ _ h => h) (Or.inl ⟨by rfl, by intro wx hx; obtain ⟨_, _, _⟩ := hx; go_simp⟩) (by assumption) ?_
          try simp only [List.getElem_toArray, List.getElem_cons_succ, List.getElem_cons_zero, Act.put, List.setIfInBounds_toArray, List.set_cons_zero, List.set_cons_succ]
          refine wpAnyH_take (i := 17) (v := .int .i64 (r - x)) rfl (by kernel_rfl) (by kernel_rfl) (by kernel_rfl) (fun _ _ _ h => h) (Or.inl ⟨by rfl, by intro wx hx; (go_simp; exact IntWalk.i64_in _ (by omega))⟩) (by assumption) ?_
          try simp only [List.getElem_toArray, List.getElem_cons_succ, List.getElem_cons_zero, Act.put, List.setIfInBounds_toArray, List.set_cons_zero, List.set_cons_succ]
          refine wpAnyH_take (i := 19) (v := .slice (some ⟨g, 0, none⟩) A.length m3) rfl (by kernel_rfl) (by kernel_rfl) (by kernel_rfl) (fun _ _ _ h => h) (Or.inl ⟨by rfl, by intro wx hx; go_simp⟩) (by assumption) ?_
          try simp only [List.getElem_toArray, List.getElem_cons_succ, List.getElem_cons_zero, Act.put, List.setIfInBounds_toArray, List.set_cons_zero, List.set_cons_succ]
          refine wpAnyH_take (i := 21) (v := .slice (some ⟨bX, oX, none⟩) X.length cX) rfl (by kernel_rfl) (by kernel_rfl) (by kernel_rfl) (fun _ _ _ h => h) (Or.inl ⟨by rfl, by intro wx hx; go_simp⟩) (by assumption) ?_
          try simp only [List.getElem_toArray, List.getElem_cons_succ, List.getElem_cons_zero, Act.put, List.setIfInBounds_toArray, List.set_cons_zero, List.set_cons_succ]
          refine wpAnyH_take (i := 22) (v := .int .i64 i) rfl (by kernel_rfl) (by kernel_rfl) (by kernel_rfl) (fun _ _ _ h => h) (Or.inl ⟨by rfl, by intro wx hx; go_simp⟩) (by assumption) ?_
          try simp only [List.getElem_toArray, List.getElem_cons_succ, List.getElem_cons_zero, Act.put, List.setIfInBounds_toArray, List.set_cons_zero, List.set_cons_succ]
          refine wpAnyH_take (i := 23) (v := .int .i64 ((i : Int) + 1)) rfl (by kernel_rfl) (by kernel_rfl) (by kernel_rfl) (fun _ _ _ h => h) (Or.inl ⟨by rfl, by intro wx hx; (go_simp; exact IntWalk.i64_in _ (by omega))⟩) (by assumption) ?_
          try simp only [List.getElem_toArray, List.getElem_cons_succ, List.getElem_cons_zero, Act.put, List.setIfInBounds_toArray, List.set_cons_zero, List.set_cons_succ]
          refine wpAnyH_ready (rs := [18]) (by kernel_rfl) (by simp) ?_
          refine AllReadyH.cons rfl (fun K hK => ?_) AllReadyH.nil
          go_simp
          refine (most_any (x - r) (r - x) wd).mono ?_
          rw [← hD.out]
          rintro e we ⟨rfl, rfl⟩
          go_wp2_with fail
          refine hK.out _ _ hHeld0 (fun hHeld1 => ?_)
          clear hK K hHeld0
          try simp only [List.getElem_toArray, List.getElem_cons_succ, List.getElem_cons_zero, Act.put, List.setIfInBounds_toArray, List.set_cons_zero, List.set_cons_succ]
          refine wpAnyH_ready (rs := [20]) (by kernel_rfl) (by simp) ?_
          refine AllReadyH.cons rfl (fun K hK => ?_) AllReadyH.nil
          go_simp
          have hlenN : (A.set k r).length = A.length := by simp
          refine (hS.out wd ed).mono ?_
          rintro e wf ⟨u, rfl, ownS, eS⟩
          have hU : IsInts wf u (sortL (A.set k r)) := ownS.reads (e := 3) (by unfold Short; have := hslen'.out; omega) (fun y hy => by have := hsb.out y hy; unfold I64; omega)
          have ebf : Ext wb wf := Ext.trans ed eS
          obtain ⟨dU, mU, rfl, lU⟩ := hU.form
          go_wp2_with fail
          refine hK.out _ _ ⟨ebf, ebf.cell hcA, ebf.cell hcY⟩ (fun hHeld2 => ?_)
          clear hK K hHeld1
          try simp only [List.getElem_toArray, List.getElem_cons_succ, List.getElem_cons_zero, Act.put, List.setIfInBounds_toArray, List.set_cons_zero, List.set_cons_succ]
          refine wpAnyH_ready (rs := [24]) (by kernel_rfl) (by simp) ?_
          refine AllReadyH.cons rfl (fun K hK => ?_) AllReadyH.nil
          go_simp
          have hI := hih2.out wf _ (Ext.trans e0b ebf) hU
          refine hI.mono ?_
          rintro e wg ⟨rfl, eg⟩
          have ebg : Ext wb wg := Ext.trans ebf eg
          go_wp2_with fail
          refine hK.out _ _ ⟨ebg, ebg.cell hcA, ebg.cell hcY⟩ (fun hHeld3 => ?_)
          clear hK K hHeld2
          try simp only [List.getElem_toArray, List.getElem_cons_succ, List.getElem_cons_zero, Act.put, List.setIfInBounds_toArray, List.set_cons_zero, List.set_cons_succ]
          refine wpAnyH_take (i := 25) (v := .int .i64 F) rfl (by kernel_rfl) (by kernel_rfl) (by kernel_rfl) (fun _ _ _ h => h) (Or.inl ⟨by rfl, by intro wx hx; (go_simp; first |exact IntWalk.i64_in _ (by omega) |(rw [IntWalk.i64_in _ (by omega)]; exact hff.symm))⟩) (by assumption) ?_
          try simp only [List.getElem_toArray, List.getElem_cons_succ, List.getElem_cons_zero, Act.put, List.setIfInBounds_toArray, List.set_cons_zero, List.set_cons_succ]
          refine wpAnyH_take (i := 26) (v := .int .i64 F) rfl (by kernel_rfl) (by kernel_rfl) (by kernel_rfl) (fun _ _ _ h => h) (Or.inl ⟨by rfl, by intro wx hx; go_simp⟩) (by assumption) ?_
          try simp only [List.getElem_toArray, List.getElem_cons_succ, List.getElem_cons_zero, Act.put, List.setIfInBounds_toArray, List.set_cons_zero, List.set_cons_succ]
          refine wpAnyH_done (by kernel_rfl) ?_ _
          have ekg : Ext w wg := Ext.trans he (Ext.trans e4 ebg)
          clear hcA hcY hnext own4 own4' b4 hS hih2 hI ownS hU
          by_cases hz1 : Z < 0
          · have hl := hid (show lfTo r rs A (k + 1) = F by rw [hst.out, if_pos (Or.inl hz1)])
            go_wp2_with fail
            go_roundw
            case rel => exact ⟨k + 1, by omega, by go_num, by rw [hl.out], ekg⟩
            case measure => simp [intOf]; omega
          · by_cases hz2 : F < Z
            · have hl := hid (show lfTo r rs A (k + 1) = F by rw [hst.out, if_pos (Or.inr hz2)])
              go_wp2_with fail
              go_roundw
              case rel => exact ⟨k + 1, by omega, by go_num, by rw [hl.out], ekg⟩
              case measure => simp [intOf]; omega
            · have hl := hid (show lfTo r rs A (k + 1) = Z by rw [hst.out, if_neg (by omega)])
              go_wp2_with fail
              go_roundw
              case rel => exact ⟨k + 1, by omega, by go_num, by rw [hl.out], ekg⟩
              case measure => simp [intOf]; omega
        · have hkn : k = A.length := by omega
          have hgt : ¬ (k : Int) < (A.length : Int) := by omega
          have hres := hid (show lfTo r rs A k = vU (X.drop i) A by
            rw [hdr.out, hkn]
            obtain ⟨q, hq⟩ : ∃ q, A.length = q + 1 := ⟨A.length - 1, by omega⟩
            rw [hq]
            show mn (lfF r rs A) q = mn _ (A.length - 1)
            rw [hq]
            rfl)
          replace hkn := hid hkn
          go_wp2_with fail
          go_ret
          exact ⟨ret_int hres.out, he⟩
end Go.Proofs.Ytohjbabjkjcddaa
