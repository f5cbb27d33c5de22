/- Double coverage walked: one step of the program. -/
import Derived.Test.YtohjbabjkjcddaaDcW
import Derived.Test.YtohjbabjkjcddaaStep
namespace Go.Proofs.Ytohjbabjkjcddaa
open Go.RowKit

theorem covL_in {a : List Int} {r : Int} {lo hi : Int} (ha : Asc a) (h0 : 0 < a.length) (h3 : a.length ≤ 3) (hb : ∀ x ∈ a, lo ≤ x ∧ x ≤ hi) (hr : lo ≤ r ∧ r ≤ hi) : ∀ x ∈ covL a r, lo ≤ x ∧ x ≤ hi := by
  match a, ha, h0, h3 with
  | [a], _, _, _ =>
    have ha := hb a (.head _)
    intro x hx
    unfold covL covAt at hx
    by_cases h : r = a
    · rw [if_pos (by simp [h])] at hx
      exact hb x hx
    · rw [if_neg (by simpa using h)] at hx
      by_cases h2 : a < r
      · simp [posL, h2] at hx; omega
      · simp [posL, h2] at hx; omega
  | [a, b], ha, _, _ =>
    have h1 := hb a (.head _)
    have h2 := hb b (.tail _ (.head _))
    have hs := asc2.1 ha
    rw [cov2 hs]
    intro x hx
    split at hx
    · exact hb x hx
    · split at hx
      · simp only [List.mem_cons, List.not_mem_nil, or_false] at hx; omega
      · split at hx
        · simp only [List.mem_cons, List.not_mem_nil, or_false] at hx; omega
        · simp only [List.mem_cons, List.not_mem_nil, or_false] at hx; omega
  | [a, b, c], ha, _, _ =>
    have h1 := hb a (.head _)
    have h2 := hb b (.tail _ (.head _))
    have h4 := hb c (.tail _ (.tail _ (.head _)))
    have hs := asc3.1 ha
    rw [cov3 hs.1.1 hs.2]
    intro x hx
    split at hx
    · exact hb x hx
    · split at hx
      · simp only [List.mem_cons, List.not_mem_nil, or_false] at hx; omega
      · split at hx
        · simp only [List.mem_cons, List.not_mem_nil, or_false] at hx; omega
        · split at hx
          · simp only [List.mem_cons, List.not_mem_nil, or_false] at hx; omega
          · simp only [List.mem_cons, List.not_mem_nil, or_false] at hx; omega
def CovPost (a : List Int) (r : Int) (w : World) (e : Ending) (w' : World) : Prop :=
  ∃ d m, e = .returned (.slice d a.length m) ∧ Own w' w.heap.size [intRowOf 3 (.slice d a.length m) (covL a r)] ∧ Ext w w'
theorem contains_iff {a : List Int} {r : Int} : a.contains r = true ↔ r ∈ a := by simp
def rw1 (g n m : Nat) (xs : List Int) : Row := ⟨3, 1, .slice (some ⟨g, 0, none⟩) n m, n, xs.map (Value.int .i64)⟩
theorem own_set1 {w : World} {B g m n : Nat} {xs : List Int} (h : Own w B [rw1 g n m xs]) (k : Nat) (x : Int) :
    Own (w.setCell ⟨g, k, none⟩ (.int .i64 x)) B [rw1 g n m (xs.set k x)] := by
  have h2 := Own.set (show Own w B (⟨3, 1, .slice (some ⟨g, 0, none⟩) n m, n, xs.map (Value.int .i64)⟩ :: []) from h) k (.int .i64 x)
  rw [← List.map_set] at h2
  exact h2
theorem own_at1 {w : World} {B g m n : Nat} {xs : List Int} (h : Own w B [rw1 g n m xs]) (hn : xs.length = n) {k : Nat} (hk : k < n) : w.cell? ⟨g, k, none⟩ = some (.int .i64 (nth xs k)) ∧ w.frozen? ⟨g, k, none⟩ = false := by
  have h' : Own w B (⟨3, 1, .slice (some ⟨g, 0, none⟩) n m, n, xs.map (Value.int .i64)⟩ :: []) := h
  refine ⟨?_, h'.frozenAt k⟩
  rw [h'.cellAt (w' := w) hk]
  simp [nth, show k < xs.length by omega]
theorem own_in1 {w : World} {B g m : Nat} {a xs : List Int} (h : Own w B [rw1 g a.length m xs]) (hn : xs.length = a.length) : Own w B [intRowOf 3 (.slice (some ⟨g, 0, none⟩) a.length m) xs] := by
  unfold intRowOf
  rw [hn]
  exact h
set_option maxHeartbeats 1600000 in
set_option maxRecDepth 100000 in
theorem covered_any {v : Value} {a : List Int} {r : Int} {w0 w : World} [Ext w0 w] (hv : IsInts w0 v a) (ha : Asc a) (h0 : 0 < a.length) (h3 : a.length ≤ 3) (hb : ∀ x ∈ a, -1000 ≤ x ∧ x ≤ 1000) (hr : -1000 ≤ r ∧ r ≤ 1000) :
    Calls Try.prog 49 #[v, .int .i64 r] w fun e w' => CovPost a r w e w' := by
  have hv' := hv
  obtain ⟨da, ca, rfl, la⟩ := hv.form
  have hai : ∀ x ∈ a, I64 x := fun x hx => by have := hb x hx; unfold I64; omega
  have hco : covL a r = covAt a r (posL a r) := rfl
  have hple := posL_le a r
  obtain ⟨p, hp⟩ : ∃ p, p = posL a r := ⟨_, rfl⟩
  rw [← hp] at hple hco
  go_enter Try.func49, Try.ntmps49
  go_wp2_with fail
  with_reducible refine (cloneInts_any (w0 := w0) hv').mono ?_
  rintro e w1 ⟨d, m, rfl, own1, e1⟩
  obtain ⟨g, rfl⟩ := own1.at (j := 0) h0
  have hi1 : IsInts w1 (.slice (some ⟨g, 0, none⟩) a.length m) a := own1.reads la hai
  have hbin := bin_any (r := r) hi1 h0 ha (by omega)
  rw [← hp] at hbin
  replace hp := hid hp
  go_wp2_with fail
  refine hbin.mono ?_
  rintro e w2 ⟨rfl, e2⟩
  have own2 : Own w2 w.heap.size [rw1 g a.length m a] := own1.ext (w' := w2)
  have ew2 : Ext w w2 := Ext.trans e1 e2
  have hgB : w.heap.size ≤ g := own1.lt.1
  by_cases hc : r ∈ a
  · have hcc : a.contains r = true := contains_iff.2 hc
    have hres := hid (show covL a r = a by rw [hco, covAt, if_pos hc])
    rw [hcc]
    replace hc := hid hc
    replace hco := hid hco
    go_wp2_with fail
    go_ret
    exact ⟨_, m, rfl, own_in1 (by rw [hres.out]; exact own2) (covL_len a r), ew2⟩
  · have hcc : a.contains r = false := by
      cases h : a.contains r with
      | false => rfl
      | true => exact absurd (contains_iff.1 h) hc
    rw [hcc]
    rw [covAt, if_neg hc] at hco
    replace hc := hid hc
    by_cases hp0 : p = 0
    · have hp0' : ((p : Int) == 0) = true := beq_iff_eq.2 (by omega)
      rw [if_pos hp0] at hco
      replace hco := hid hco
      obtain ⟨c1, f1⟩ := own_at1 own2 rfl h0
      have own3 := own_set1 own2 0 r
      have b3 : Below w.heap.size w (w2.setCell ⟨g, 0, none⟩ (.int .i64 r)) := ew2.below.setCell hgB _
      replace hp0 := hid hp0
      go_wp2_with fail
      go_ret
      exact ⟨_, m, rfl, own_in1 (by rw [hco.out]; exact own3) (covL_len a r), ⟨b3⟩⟩
    · have hp0' : ((p : Int) == 0) = false := beq_eq_false_iff_ne.2 (by omega)
      rw [if_neg hp0] at hco
      have hp1 : p - 1 < a.length := by omega
      obtain ⟨c1, f1⟩ := own_at1 own2 rfl hp1
      have hpi : ((p : Int) - 1).toNat = p - 1 := by omega
      by_cases hpl : p = a.length
      · have hpl' : ((p : Int) == (a.length : Int)) = true := beq_iff_eq.2 (by omega)
        rw [if_pos hpl] at hco
        replace hco := hid hco
        have own3 := own_set1 own2 (p - 1) r
        have b3 : Below w.heap.size w (w2.setCell ⟨g, p - 1, none⟩ (.int .i64 r)) := ew2.below.setCell hgB _
        have hpb : (p : Int) - 1 < (a.length : Int) := by omega
        replace hpl := hid hpl
        go_wp2_with fail
        go_ret
        exact ⟨_, m, rfl, own_in1 (by rw [hco.out]; exact own3) (covL_len a r), ⟨b3⟩⟩
      · have hpl' : ((p : Int) == (a.length : Int)) = false := beq_eq_false_iff_ne.2 (by omega)
        rw [if_neg hpl] at hco
        have hp2 : p < a.length := by omega
        obtain ⟨c2, f2⟩ := own_at1 own2 rfl hp2
        have hpb : (p : Int) - 1 < (a.length : Int) := by omega
        have hpb2 : (p : Int) < (a.length : Int) := by omega
        have q1 := hb _ (nth_mem hp1)
        have q2 := hb _ (nth_mem hp2)
        obtain ⟨M, hM⟩ : ∃ z, z = min (r - nth a (p - 1)) (nth a p - r) := ⟨_, rfl⟩
        rw [← hM] at hco
        have hMb : -2000 ≤ M ∧ M ≤ 2000 := by rw [hM]; omega
        have hnx : nth (a.set (p - 1) (nth a (p - 1) + M)) p = nth a p := by simp [nth, hp2, show p - 1 ≠ p by omega]
        replace hco := hid hco
        replace hnx := hid hnx
        replace hpl := hid hpl
        obtain ⟨x, hx⟩ : ∃ z, z = nth a (p - 1) := ⟨_, rfl⟩
        obtain ⟨y, hy⟩ : ∃ z, z = nth a p := ⟨_, rfl⟩
        rw [← hx] at c1 q1 hnx hco hM
        rw [← hy] at c2 q2 hnx hco hM
        replace hx := hid hx
        replace hy := hid hy
        replace hM := hid hM
        go_upto_region 3 with fail
        refine region_held_from (w0 := w2) (S := fun u => Ext w2 u ∧ u.cell? ⟨g, p - 1, none⟩ = some (.int .i64 x) ∧ u.cell? ⟨g, p, none⟩ = some (.int .i64 y)) (by kernel_rfl) (fun u e => ⟨e, e.cell c1, e.cell c2⟩) (fun wd ed hHeld0 => ?_)
        refine wpAnyH_take (i := 0) (v := .int .i64 r) rfl (by kernel_rfl) (by kernel_rfl) (by kernel_rfl) (fun _ _ _ h => h) (Or.inl ⟨by rfl, by intro wx hx; go_simp⟩) (by assumption) ?_
        try simp only [List.getElem_toArray, List.getElem_cons_zero, Act.put, List.setIfInBounds_toArray, List.set_cons_zero, List.set_cons_succ]
        refine wpAnyH_take (i := 1) (v := .slice (some ⟨g, 0, none⟩) a.length m) rfl (by kernel_rfl) (by kernel_rfl) (by kernel_rfl) (fun _ _ _ h => h) (Or.inl ⟨by rfl, by intro wx hx; go_simp⟩) (by assumption) ?_
        try simp only [List.getElem_toArray, List.getElem_cons_succ, List.getElem_cons_zero, Act.put, List.setIfInBounds_toArray, List.set_cons_zero, List.set_cons_succ]
        refine wpAnyH_take (i := 2) (v := .int .i64 p) rfl (by kernel_rfl) (by kernel_rfl) (by kernel_rfl) (fun _ _ _ h => h) (Or.inl ⟨by rfl, by intro wx hx; go_simp⟩) (by assumption) ?_
        try simp only [List.getElem_toArray, List.getElem_cons_succ, List.getElem_cons_zero, Act.put, List.setIfInBounds_toArray, List.set_cons_zero, List.set_cons_succ]
        refine wpAnyH_take (i := 3) (v := .int .i64 ((p : Int) - 1)) rfl (by kernel_rfl) (by kernel_rfl) (by kernel_rfl) (fun _ _ _ h => h) (Or.inl ⟨by rfl, by intro wx hx; (go_simp; exact IntWalk.i64_in _ (by omega))⟩) (by assumption) ?_
        try simp only [List.getElem_toArray, List.getElem_cons_succ, List.getElem_cons_zero, Act.put, List.setIfInBounds_toArray, List.set_cons_zero, List.set_cons_succ]
        refine wpAnyH_take (i := 4) (v := .pointer (some ⟨g, p - 1, none⟩)) rfl (by kernel_rfl) (by kernel_rfl) (by kernel_rfl) (fun _ _ _ h => h) (Or.inl ⟨by rfl, by intro wx hx; (go_simp; intro h; omega)⟩) (by assumption) ?_
        try simp only [List.getElem_toArray, List.getElem_cons_succ, List.getElem_cons_zero, Act.put, List.setIfInBounds_toArray, List.set_cons_zero, List.set_cons_succ]
        refine wpAnyH_take (i := 5) (v := .int .i64 x) rfl (by kernel_rfl) (by kernel_rfl) (by kernel_rfl) (fun _ _ _ h => h) (Or.inl ⟨by rfl, by intro wx hx; obtain ⟨_, _, _⟩ := hx; go_simp⟩) (by assumption) ?_
        try simp only [List.getElem_toArray, List.getElem_cons_succ, List.getElem_cons_zero, Act.put, List.setIfInBounds_toArray, List.set_cons_zero, List.set_cons_succ]
        refine wpAnyH_take (i := 6) (v := .int .i64 (r - x)) rfl (by kernel_rfl) (by kernel_rfl) (by kernel_rfl) (fun _ _ _ h => h) (Or.inl ⟨by rfl, by intro wx hx; (go_simp; exact IntWalk.i64_in _ (by omega))⟩) (by assumption) ?_
        try simp only [List.getElem_toArray, List.getElem_cons_succ, List.getElem_cons_zero, Act.put, List.setIfInBounds_toArray, List.set_cons_zero, List.set_cons_succ]
        refine wpAnyH_take (i := 7) (v := .slice (some ⟨g, 0, none⟩) a.length m) rfl (by kernel_rfl) (by kernel_rfl) (by kernel_rfl) (fun _ _ _ h => h) (Or.inl ⟨by rfl, by intro wx hx; go_simp⟩) (by assumption) ?_
        try simp only [List.getElem_toArray, List.getElem_cons_succ, List.getElem_cons_zero, Act.put, List.setIfInBounds_toArray, List.set_cons_zero, List.set_cons_succ]
        refine wpAnyH_take (i := 8) (v := .int .i64 p) rfl (by kernel_rfl) (by kernel_rfl) (by kernel_rfl) (fun _ _ _ h => h) (Or.inl ⟨by rfl, by intro wx hx; go_simp⟩) (by assumption) ?_
        try simp only [List.getElem_toArray, List.getElem_cons_succ, List.getElem_cons_zero, Act.put, List.setIfInBounds_toArray, List.set_cons_zero, List.set_cons_succ]
        refine wpAnyH_take (i := 9) (v := .pointer (some ⟨g, p, none⟩)) rfl (by kernel_rfl) (by kernel_rfl) (by kernel_rfl) (fun _ _ _ h => h) (Or.inl ⟨by rfl, by intro wx hx; go_simp⟩) (by assumption) ?_
        try simp only [List.getElem_toArray, List.getElem_cons_succ, List.getElem_cons_zero, Act.put, List.setIfInBounds_toArray, List.set_cons_zero, List.set_cons_succ]
        refine wpAnyH_take (i := 10) (v := .int .i64 y) rfl (by kernel_rfl) (by kernel_rfl) (by kernel_rfl) (fun _ _ _ h => h) (Or.inl ⟨by rfl, by intro wx hx; obtain ⟨_, _, _⟩ := hx; go_simp⟩) (by assumption) ?_
        try simp only [List.getElem_toArray, List.getElem_cons_succ, List.getElem_cons_zero, Act.put, List.setIfInBounds_toArray, List.set_cons_zero, List.set_cons_succ]
        refine wpAnyH_take (i := 11) (v := .int .i64 r) rfl (by kernel_rfl) (by kernel_rfl) (by kernel_rfl) (fun _ _ _ h => h) (Or.inl ⟨by rfl, by intro wx hx; go_simp⟩) (by assumption) ?_
        try simp only [List.getElem_toArray, List.getElem_cons_succ, List.getElem_cons_zero, Act.put, List.setIfInBounds_toArray, List.set_cons_zero, List.set_cons_succ]
        refine wpAnyH_take (i := 12) (v := .int .i64 (y - r)) rfl (by kernel_rfl) (by kernel_rfl) (by kernel_rfl) (fun _ _ _ h => h) (Or.inl ⟨by rfl, by intro wx hx; (go_simp; exact IntWalk.i64_in _ (by omega))⟩) (by assumption) ?_
        try simp only [List.getElem_toArray, List.getElem_cons_succ, List.getElem_cons_zero, Act.put, List.setIfInBounds_toArray, List.set_cons_zero, List.set_cons_succ]
        refine wpAnyH_ready (rs := [13]) (by kernel_rfl) (by simp) ?_
        refine AllReadyH.cons rfl (fun K hK => ?_) AllReadyH.nil
        go_simp
        rw [← hM.out]
        refine hK.out _ _ hHeld0 (fun hHeld1 => ?_)
        clear hK K hHeld0
        try simp only [List.getElem_toArray, List.getElem_cons_succ, List.getElem_cons_zero, Act.put, List.setIfInBounds_toArray, List.set_cons_zero, List.set_cons_succ]
        refine wpAnyH_take (i := 14) (v := .int .i64 M) rfl (by kernel_rfl) (by kernel_rfl) (by kernel_rfl) (fun _ _ _ h => h) (Or.inl ⟨by rfl, by intro wx hx; go_simp⟩) (by assumption) ?_
        try simp only [List.getElem_toArray, List.getElem_cons_succ, List.getElem_cons_zero, Act.put, List.setIfInBounds_toArray, List.set_cons_zero, List.set_cons_succ]
        refine wpAnyH_done (by kernel_rfl) ?_ _
        have own3 := own2.ext (w' := wd)
        have ewd : Ext w wd := Ext.trans ew2 ed
        have f3 := (own_at1 own3 rfl hp1).2
        have c3 := (own_at1 own3 rfl hp1).1
        rw [← hx.out] at c3
        have own4 := own_set1 own3 (p - 1) (x + M)
        have b4 : Below w.heap.size w (wd.setCell ⟨g, p - 1, none⟩ (.int .i64 (x + M))) := ewd.below.setCell hgB _
        obtain ⟨c4, f4⟩ := own_at1 own4 (by simp) hp2
        rw [hnx.out] at c4
        have own5 := own_set1 own4 p (y - M)
        have b5 := b4.setCell (p := ⟨g, p, none⟩) hgB (.int .i64 (y - M))
        rw [← hco.out] at own5
        replace own5 := hid own5
        replace own4 := hid own4
        replace b4 := hid b4
        replace b5 := hid b5
        go_wp2_with fail
        go_ret
        exact ⟨_, m, rfl, own_in1 own5.out (covL_len a r), ⟨b5.out⟩⟩
end Go.Proofs.Ytohjbabjkjcddaa
