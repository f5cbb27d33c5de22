/- A cell of a growing table of one's own is written. -/
import Derived.Test.YtkibmjenjgijmaaGrD
import Derived.Test.YtkibmjenjgijmaaTab
namespace Go.Proofs.Ytkibmjenjgijmaa
open Go.RowKit

theorem Tab.mono {w : World} {B B' : Nat} {v : Value} {M : List (List Int)} {R : List Row} (h : Tab w B v M R) (hB : B' ≤ B) : Tab w B' v M R := by
  obtain ⟨vs, h1, h2⟩ := h
  exact ⟨vs, h1, h2.mono hB⟩
theorem Tab.place {w : World} {B : Nat} {v : Value} {M : List (List Int)} {R : List Row} (h : Tab w B v M R) (h0 : 0 < M.length) : ∃ g m, v = .slice (some ⟨g, 0, none⟩) M.length m := by
  obtain ⟨d, m, rfl⟩ := h.form
  obtain ⟨vs, hv, h⟩ := h
  unfold rowsOf valRowOf at h
  rw [hv, List.cons_append] at h
  obtain ⟨g, rfl⟩ := h.at h0
  exact ⟨g, m, rfl⟩
theorem Tab.rd {w : World} {B g n m : Nat} {M : List (List Int)} {R : List Row} (h : Tab w B (.slice (some ⟨g, 0, none⟩) n m) M R) (hn : M.length = n) {i : Nat} (hi : i < n) (h0 : 0 < (row M i).length) :
    ∃ gk mk, w.cell? ⟨g, i, none⟩ = some (.slice (some ⟨gk, 0, none⟩) (row M i).length mk) ∧ B ≤ gk ∧
      ∀ q, q < (row M i).length → w.cell? ⟨gk, q, none⟩ = some (.int .i64 (nth (row M i) q)) ∧ w.frozen? ⟨gk, q, none⟩ = false ∧
        ∀ x, Tab (w.setCell ⟨gk, q, none⟩ (.int .i64 x)) B (.slice (some ⟨g, 0, none⟩) n m) (M.set i ((row M i).set q x)) R := by
  obtain ⟨vs, hv, h⟩ := h
  obtain ⟨u, hu⟩ : ∃ u, vs[i]? = some u := ⟨_, List.getElem?_eq_getElem (by omega)⟩
  have hr : M[i]? = some (row M i) := by simp [row, show i < M.length by omega]
  have hhead : Own w B (⟨27, 1, .slice (some ⟨g, 0, none⟩) n m, n, vs⟩ :: (List.zipWith (intRowOf 3) vs M ++ R)) := by
    have h' := h
    unfold rowsOf valRowOf at h'
    rw [hv, hn] at h'
    exact h'
  have hc := hhead.cellAt (w' := w) hi
  rw [List.getD_eq_getElem?_getD, hu] at hc
  have hpick := h.pick (h.rowAt hr hu)
  obtain ⟨d, mk, hd⟩ := hpick.form
  have hd' : u = .slice d (row M i).length mk := hd
  subst hd'
  obtain ⟨gk, rfl⟩ := hpick.at h0
  refine ⟨gk, mk, hc, hpick.lt.1, fun q hq => ⟨?_, hpick.frozenAt q, fun x => ?_⟩⟩
  · have := hpick.cellAt (w' := w) hq
    rw [this]
    simp [nth, hq]
  · have h3 := hpick.set q (.int .i64 x)
    have e : (⟨3, 1, .slice (some ⟨gk, 0, none⟩) (row M i).length mk, (row M i).length, ((row M i).map (Value.int .i64)).set q (.int .i64 x)⟩ : Row) = intRowOf 3 (.slice (some ⟨gk, 0, none⟩) (row M i).length mk) ((row M i).set q x) := by
      unfold intRowOf
      rw [List.length_set, List.map_set]
    rw [e] at h3
    have h4 := h3.put (by unfold rowsOf; simp; omega)
    rw [rowsOf_set (by omega) hu] at h4
    exact ⟨vs, by rw [List.length_set]; exact hv, h4⟩
/-- the cells of a table of one's own: the slices of its rows -/
theorem own_tab {w : World} {B g n m : Nat} {vs : List Value} {M : List (List Int)} {R : List Row} (h : Own w B (rowsOf 27 3 (.slice (some ⟨g, 0, none⟩) n m) vs M ++ R)) (hv : vs.length = n) (hn : M.length = n)
    (hr : ∀ r ∈ M, Short r.length) (hi : ∀ r ∈ M, ∀ x ∈ r, I64 x) : ∀ i, i < n → w.cell? ⟨g, i, none⟩ = some (vs.getD i undef) ∧ IsInts w (vs.getD i undef) (row M i) := by
  intro i hlt
  obtain ⟨u, hu⟩ : ∃ u, vs[i]? = some u := ⟨_, List.getElem?_eq_getElem (by omega)⟩
  have hrow : M[i]? = some (row M i) := by simp [row, show i < M.length by omega]
  have hhead : Own w B (⟨27, 1, .slice (some ⟨g, 0, none⟩) n m, n, vs⟩ :: (List.zipWith (intRowOf 3) vs M ++ R)) := by
    have h' := h
    unfold rowsOf valRowOf at h'
    rw [hv] at h'
    exact h'
  have hm : row M i ∈ M := row_mem (by omega)
  refine ⟨hhead.cellAt (w' := w) hlt, ?_⟩
  rw [List.getD_eq_getElem?_getD, hu]
  exact (h.pick (h.rowAt hrow hu)).reads (hr _ hm) (hi _ hm)
theorem row_sets {T : List (List Int)} {j : Nat} {r : List Int} (h : j < T.length) : row (T.set j r) j = r := by simp [row, h]
theorem row_set_ne {T : List (List Int)} {j i : Nat} {r : List Int} (h : j ≠ i) : row (T.set j r) i = row T i := by simp [row, List.getElem?_set_ne h]
/-- a row whose first i numbers are made -/
def prt (R : List Int) (n i : Nat) : List Int := (List.range n).map fun q => if q < i then nth R q else 0
theorem prt_zero {R : List Int} {n : Nat} : prt R n 0 = List.replicate n 0 := by
  refine List.ext_getElem (by simp [prt]) fun j h1 h2 => ?_
  simp [prt]
theorem prt_full {R : List Int} {n : Nat} (h : R.length = n) : prt R n n = R := by
  subst h
  refine List.ext_getElem (by simp [prt]) fun j h1 h2 => ?_
  simp [prt, nth, h2]
theorem prt_len {R : List Int} {n i : Nat} : (prt R n i).length = n := by simp [prt]
theorem prt_set {R : List Int} {n i : Nat} : (prt R n i).set i (nth R i) = prt R n (i + 1) := by
  refine List.ext_getElem (by simp [prt]) fun j h1 h2 => ?_
  have hj : j < n := by simpa [prt] using h2
  rw [List.getElem_set]
  by_cases e : i = j
  · subst e
    simp [prt]
  · rw [if_neg e]
    simp only [prt, List.getElem_map, List.getElem_range]
    by_cases hj2 : j < i
    · rw [if_pos hj2, if_pos (by omega)]
    · rw [if_neg hj2, if_neg (by omega)]
end Go.Proofs.Ytkibmjenjgijmaa
