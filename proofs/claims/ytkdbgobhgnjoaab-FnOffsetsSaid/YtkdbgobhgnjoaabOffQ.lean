/- Offsets lead along a sequence to its work function: in plain Lean. -/
import Derived.Test.YtkdbgobhgnjoaabSchP
import Derived.Test.YtkdbgobhgnjoaabPairP
namespace Go.Proofs.Ytkdbgobhgnjoaab
open Go.RowKit

theorem ixL_at {p : List Int → Bool} : ∀ {xs : List (List Int)} {i : Nat}, 0 ≤ ixL p xs i → ∃ k, ixL p xs i = ((i + k : Nat) : Int) ∧ k < xs.length ∧ p (row xs k) = true
  | [], i, h => by simp [ixL] at h
  | x :: xs, i, h => by
    rw [ixL] at h ⊢
    by_cases hx : p x = true
    · rw [if_pos hx]
      exact ⟨0, by simp, by simp, hx⟩
    · rw [if_neg hx] at h ⊢
      obtain ⟨k, h1, h2, h3⟩ := ixL_at h
      exact ⟨k + 1, by rw [h1]; congr 1; omega, by simpa using h2, h3⟩
theorem rowLst_keep {M S : List (List Int)} {l : List (List Int)} {i r j : Nat} (hj : j < (rowLst M S l i r).length) : ∀ {q : Nat}, r ≤ q → row (rowLst M S l i q) j = row (rowLst M S l i r) j ∧ j < (rowLst M S l i q).length
  | 0, h => by
    have : r = 0 := by omega
    subst this
    exact ⟨rfl, hj⟩
  | q + 1, h => by
    by_cases e : r = q + 1
    · subst e; exact ⟨rfl, hj⟩
    · obtain ⟨h1, h2⟩ := rowLst_keep hj (q := q) (by omega)
      rw [rowLst]
      split
      · refine ⟨?_, by rw [List.length_append]; omega⟩
        rw [← h1]
        unfold row
        rw [List.getD_eq_getElem?_getD, List.getElem?_append_left h2, List.getD_eq_getElem?_getD]
      · exact ⟨h1, h2⟩
/-- a step leads to the normal form of the next work function -/
theorem stp_row {M S : List (List Int)} {s n i r : Nat} (h : offEnd M S s = some n) (hi : i < n) (hr : r < S.length) :
    row (offLst M S s n) (cell (offStp M S s n) i r).toNat = normL (nextL M S (row (offLst M S s n) i) r) := by
  have hi2 := offGo_lt h hi
  have hri : row (offLst M S s n) i = row (offLst M S s i) i := (offLst_row (by omega) hi2).symm
  have hcell : cell (offStp M S s n) i r = if ixAt M S (offLst M S s i) i r < 0 then ((rowLst M S (offLst M S s i) i r).length : Int) else ixAt M S (offLst M S s i) i r := by
    unfold cell
    rw [row_offStp hi]
    simp [rowStp, nth, hr]
  have fin : ∀ j, j < (rowLst M S (offLst M S s i) i (r + 1)).length → row (offLst M S s n) j = row (rowLst M S (offLst M S s i) i (r + 1)) j := by
    intro j hj
    obtain ⟨h1, h2⟩ := rowLst_keep hj (q := S.length) (by omega)
    rw [← h1]
    exact (offLst_row (i := i + 1) (n := n) (by omega) h2).symm
  rw [hcell, hri]
  by_cases hneg : ixAt M S (offLst M S s i) i r < 0
  · rw [if_pos hneg, Int.toNat_natCast]
    have e : rowLst M S (offLst M S s i) i (r + 1) = rowLst M S (offLst M S s i) i r ++ [normL (nextL M S (row (offLst M S s i) i) r)] := by
      rw [rowLst]
      exact if_pos hneg
    rw [fin _ (by rw [e]; simp), e]
    simp [row]
  · rw [if_neg hneg]
    obtain ⟨k, h1, h2, h3⟩ := ixL_at (p := fun o => decide (o = normL (nextL M S (row (offLst M S s i) i) r))) (xs := rowLst M S (offLst M S s i) i r) (i := 0) (by unfold ixAt at hneg; omega)
    have h1' : ixAt M S (offLst M S s i) i r = ((0 + k : Nat) : Int) := h1
    rw [h1', Int.toNat_natCast, Nat.zero_add]
    have e : rowLst M S (offLst M S s i) i (r + 1) = rowLst M S (offLst M S s i) i r := by
      rw [rowLst]
      exact if_neg hneg
    rw [fin k (by rw [e]; exact h2), e]
    exact of_decide_eq_true h3
theorem grw_at {M S : List (List Int)} {s n i r : Nat} (h : offEnd M S s = some n) (hi : i < n) (hr : r < S.length) :
    cell (offGrw M S s n) i r = leastL (nextL M S (row (offLst M S s n) i) r) := by
  have hri : row (offLst M S s n) i = row (offLst M S s i) i := (offLst_row (by omega) (offGo_lt h hi)).symm
  unfold cell
  rw [row_offGrw hi, nth_rowGrw hr, hri]
/-- a number added to all values is added to all values behind a request -/
theorem nextAt_shift {M S : List (List Int)} (hp : probB M S = true) {u v : List Int} {B D c : Int} (hu : wOk M u B) (hv : wOk M v D) (hB : B ≤ 100000) (hD : D ≤ 100000) (h : ∀ t, t < M.length → nth u t = nth v t + c) {r t : Nat} (hr : r < S.length) (ht : t < M.length) :
    nextAt M S u r t = nextAt M S v r t + c := by
  obtain ⟨⟨a, ha, e1⟩, h1⟩ := nextAt_min hp hu hB hr ht
  obtain ⟨⟨b, hb, e2⟩, h2⟩ := nextAt_min hp hv hD hr ht
  have ha' := servedL_lt ha
  have hb' := servedL_lt hb
  rw [(probB_row hp hr).1] at ha' hb'
  have k1 := h1 b hb
  have k2 := h2 a ha
  have q1 := h a.toNat ha'.2.1
  have q2 := h b.toNat hb'.2.1
  unfold wsum at e1 e2 k1 k2
  omega
theorem leastL_shift {u v : List Int} {c : Int} {m : Nat} (hm : 0 < m) (hu : u.length = m) (hv : v.length = m) (h : ∀ t, t < m → nth u t = nth v t + c) : leastL u = leastL v + c := by
  have ne : ∀ w : List Int, w.length = m → w ≠ [] := fun w hw e => by rw [e] at hw; simp at hw; omega
  obtain ⟨⟨a, ha, e1⟩, h1⟩ := leastL_min (ne u hu)
  obtain ⟨⟨b, hb, e2⟩, h2⟩ := leastL_min (ne v hv)
  obtain ⟨i, hi, rfl⟩ := mem_iff_nth.1 ha
  obtain ⟨j, hj, rfl⟩ := mem_iff_nth.1 hb
  have k1 := h1 (nth u j) (nth_mem (by omega))
  have k2 := h2 (nth v i) (nth_mem (by omega))
  have q1 := h i (by omega)
  have q2 := h j (by omega)
  simp only [id] at e1 e2 k1 k2
  omega
theorem leastL_norm {w : List Int} {m : Nat} (hm : 0 < m) (hw : w.length = m) : leastL (normL w) = 0 := by
  have := leastL_shift (u := normL w) (v := w) (c := - leastL w) hm (by rw [normL_length, hw]) hw (fun t ht => by rw [nth_normL (by omega)]; omega)
  omega
/-- the place in the list and the sum behind k requests -/
def offAt (T : List (List Int)) (X : List Int) : Nat → Int
  | 0 => 0
  | k + 1 => cell T (offAt T X k).toNat (nth X k).toNat
def offSum (T G : List (List Int)) (X : List Int) : Nat → Int
  | 0 => 0
  | k + 1 => offSum T G X k + cell G (offAt T X k).toNat (nth X k).toNat
theorem off_work {M S : List (List Int)} {s : Int} {X : List Int} {n : Nat} (h : startB M S s X = true) (he : offEnd M S s.toNat = some n) : ∀ {k : Nat}, k ≤ X.length →
    (0 ≤ offAt (offStp M S s.toNat n) X k ∧ offAt (offStp M S s.toNat n) X k < n) ∧ (0 ≤ offSum (offStp M S s.toNat n) (offGrw M S s.toNat n) X k ∧ offSum (offStp M S s.toNat n) (offGrw M S s.toNat n) X k ≤ 218 * k) ∧
      leastL (row (offLst M S s.toNat n) (offAt (offStp M S s.toNat n) X k).toNat) = 0 ∧
      ∀ t, t < M.length → nth (workTo M S (row M s.toNat) X k) t = nth (row (offLst M S s.toNat n) (offAt (offStp M S s.toNat n) X k).toNat) t + offSum (offStp M S s.toNat n) (offGrw M S s.toNat n) X k
  | 0, _ => by
    have hlen := offEnd_len he
    have hst := startB_state h
    have h1 := offLst_len (M := M) (S := S) (s := s.toNat) (i := 0) (j := n) (by omega)
    have e0 : (offLst M S s.toNat 0).length = 1 := rfl
    have er : row (offLst M S s.toNat n) 0 = row M s.toNat := (offLst_row (i := 0) (n := n) (by omega) (by omega)).symm
    refine ⟨⟨by simp [offAt], by simp [offAt]; omega⟩, by simp [offSum], ?_, fun t ht => ?_⟩
    · show leastL (row (offLst M S s.toNat n) 0) = 0
      rw [er]
      exact optL_nil (startB_prob h) (by omega)
    · show nth (row M s.toNat) t = nth (row (offLst M S s.toNat n) 0) t + 0
      rw [er]; omega
  | k + 1, hk => by
    obtain ⟨⟨ha0, ha1⟩, ⟨hs0, hs1⟩, _, hw⟩ := off_work h he (k := k) (by omega)
    have hp := startB_prob h
    have hr := startB_req h (k := k) (by omega)
    have hl := startB_len h
    have hst := startB_state h
    have h0 : startB M S s [] = true := by
      simp only [startB, Bool.and_eq_true] at h ⊢
      exact ⟨h.1, by simp [seqB, belowB]⟩
    obtain ⟨_, _, hoff⟩ := offEnd_some h0 he
    have hlen := offEnd_len he
    have hrn : (nth X k).toNat < S.length := by omega
    have han : (offAt (offStp M S s.toNat n) X k).toNat < n := by omega
    have hrow : wOk M (row (offLst M S s.toNat n) (offAt (offStp M S s.toNat n) X k).toNat) 99 := hoff _ (row_mem (by omega))
    have hin := stp_in he han hrn
    have hnx := nextL_ok hp hrow (by omega) hrn
    have hno := norm_ok hp hrow hrn
    have hstep := stp_row he han hrn
    have hg := grw_at he han hrn
    refine ⟨hin, ⟨?_, ?_⟩, ?_, fun t ht => ?_⟩
    · show 0 ≤ offSum _ _ X k + cell _ _ _
      rw [hg]; omega
    · show offSum _ _ X k + cell _ _ _ ≤ _
      rw [hg]; omega
    · show leastL (row _ (cell _ _ _).toNat) = 0
      rw [hstep]
      exact leastL_norm (m := M.length) (by omega) hnx.1
    · show nth (nextL M S (workTo M S (row M s.toNat) X k) (nth X k).toNat) t = nth (row _ (cell _ _ _).toNat) t + (offSum _ _ X k + cell _ _ _)
      have hok := work_ok h (k := k) (by omega)
      rw [hstep, hg, nth_nextL (by rw [hok.1]; exact ht), nth_normL (by rw [hnx.1]; exact ht), nth_nextL (by rw [hrow.1]; exact ht)]
      rw [nextAt_shift hp hok hrow (by omega) (by omega) hw hrn ht]
      omega
/-- the sum of all that the offsets grow by is the least cost -/
theorem off_least {M S : List (List Int)} {s : Int} {X : List Int} {n : Nat} (h : startB M S s X = true) (he : offEnd M S s.toNat = some n) : offSum (offStp M S s.toNat n) (offGrw M S s.toNat n) X X.length = lcR M S s X := by
  obtain ⟨⟨ha0, ha1⟩, _, hl0, hw⟩ := off_work h he (k := X.length) (Nat.le_refl _)
  have hst := startB_state h
  have hok := work_ok h (k := X.length) (Nat.le_refl _)
  have h0 : startB M S s [] = true := by
    simp only [startB, Bool.and_eq_true] at h ⊢
    exact ⟨h.1, by simp [seqB, belowB]⟩
  obtain ⟨_, _, hoff⟩ := offEnd_some h0 he
  have hlen := offEnd_len he
  have hrow : wOk M (row (offLst M S s.toNat n) (offAt (offStp M S s.toNat n) X X.length).toNat) 99 := hoff _ (row_mem (by omega))
  have := leastL_shift (m := M.length) (by omega) hok.1 hrow.1 hw
  rw [hl0] at this
  rw [lcR_true h]
  show _ = leastL (workTo M S (row M s.toNat) X X.length)
  omega
end Go.Proofs.Ytkdbgobhgnjoaab
