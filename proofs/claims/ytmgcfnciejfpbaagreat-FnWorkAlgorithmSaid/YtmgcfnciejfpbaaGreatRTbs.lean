/- A cell of a growing table of one's own is written. -/
import Derived.Test.YtmgcfnciejfpbaaGreatRGrD
import Derived.Test.YtmgcfnciejfpbaaGreatRTab
namespace Go.Proofs.YtmgcfnciejfpbaaGreat
open Go.RowKit

theorem Tab.mono {w : World} {B B' : Nat} {v : Value} {M : List (List Int)} {R : List Row} (h : Tab w B v M R) (hB : B' ≤ B) : Tab w B' v M R := by
  obtain ⟨vs, h1, h2⟩ := h
  exact ⟨vs, h1, h2.mono hB⟩
theorem Tab.place {w : World} {B : Nat} {v : Value} {M : List (List Int)} {R : List Row} (h : Tab w B v M R) (h0 : 0 < M.length) : ∃ g m, v = .slice (some ⟨g, 0, none⟩) M.length m := by
  obtain ⟨d, m, rfl⟩ := h.form
  obtain ⟨vs, hv, h⟩ := h
  unfold rowsOf valRowOf at h
  rw [hv, List.cons_append] at h
  obtain ⟨g, rfl⟩ := h.at h0
  exact ⟨g, m, rfl⟩
/-- the cells of a table of one's own: the slices of its rows -/
theorem own_tab {w : World} {B g n m : Nat} {vs : List Value} {M : List (List Int)} {R : List Row} (h : Own w B (rowsOf 27 3 (.slice (some ⟨g, 0, none⟩) n m) vs M ++ R)) (hv : vs.length = n) (hn : M.length = n)
    (hr : ∀ r ∈ M, Short r.length) (hi : ∀ r ∈ M, ∀ x ∈ r, I64 x) : ∀ i, i < n → w.cell? ⟨g, i, none⟩ = some (vs.getD i undef) ∧ IsInts w (vs.getD i undef) (row M i) := by
  intro i hlt
  obtain ⟨u, hu⟩ : ∃ u, vs[i]? = some u := ⟨_, List.getElem?_eq_getElem (by omega)⟩
  have hrow : M[i]? = some (row M i) := by simp [row, show i < M.length by omega]
  have hhead : Own w B (⟨27, 1, .slice (some ⟨g, 0, none⟩) n m, n, vs⟩ :: (List.zipWith (intRowOf 3) vs M ++ R)) := by
    have h' := h
    unfold rowsOf valRowOf at h'
    rw [hv] at h'
    exact h'
  have hm : row M i ∈ M := row_mem (by omega)
  refine ⟨hhead.cellAt (w' := w) hlt, ?_⟩
  rw [List.getD_eq_getElem?_getD, hu]
  exact (h.pick (h.rowAt hrow hu)).reads (hr _ hm) (hi _ hm)
end Go.Proofs.YtmgcfnciejfpbaaGreat
