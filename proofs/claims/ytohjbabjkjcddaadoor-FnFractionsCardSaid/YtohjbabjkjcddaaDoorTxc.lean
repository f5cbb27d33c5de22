/- The text of a problem: the reference's and the program's. -/
import Derived.Test.YtohjbabjkjcddaaDoorTxb
import Derived.Test.YtohjbabjkjcddaaDoorCount
import Derived.Test.YtohjbabjkjcddaaDoorLawC
namespace Go.Proofs.YtohjbabjkjcddaaDoor
open Go.RowKit

def ptR (M S : List (List Int)) : List UInt8 := if probB M S then ptL M S else []
theorem sx_len {c : Int} (h : -1000000000000000 ≤ c ∧ c ≤ 1000000000000000) : (sx c).length ≤ 21 := by
  unfold sx
  split
  · simp
  · exact itoa_len h
theorem sxL_len {X : List Int} {k : Nat} (hl : X.length ≤ k) (hb : ∀ x ∈ X, -1000000000000000 ≤ x ∧ x ≤ 1000000000000000) : (sxL X).length ≤ k * 22 := by
  have h := join_len (sep := [32]) (c := 21) (r := X.map sx) fun y hy => by
    obtain ⟨x, hx, rfl⟩ := List.mem_map.1 hy
    exact sx_len (hb x hx)
  rw [List.length_map] at h
  exact Nat.le_trans h (Nat.mul_le_mul_right 22 hl)
/-- what a valid problem's numbers are like -/
theorem prob_nums {M S : List (List Int)} (h : probB M S = true) : M.length ≤ 4 ∧ S.length ≤ 4 ∧ (∀ t, t < M.length → (row M t).length = M.length) ∧ (∀ r ∈ M, r.length ≤ 4 ∧ ∀ x ∈ r, 0 ≤ x ∧ x ≤ 99) ∧ ∀ r ∈ S, r.length ≤ 4 ∧ ∀ x ∈ r, -1 ≤ x ∧ x ≤ 20 := by
  obtain ⟨h1, h2, h3, h4⟩ := probB_len h
  have hsq : ∀ t, t < M.length → (row M t).length = M.length := fun t ht => square_row (by have := probB_table h; simp only [tableB, Bool.and_eq_true] at this; exact this.1.2) ht
  refine ⟨h2, h4, hsq, fun r hr => ?_, fun r hr => ?_⟩
  · obtain ⟨t, ht, e⟩ := List.getElem_of_mem hr
    have e2 : row M t = r := by simp [row, ht, e]
    have h5 := hsq t ht
    rw [e2] at h5
    refine ⟨by omega, fun x hx => ?_⟩
    obtain ⟨y, hy, rfl⟩ := mem_iff_nth.1 hx
    have h6 := probB_move h (x := t) (y := y) ht (by omega)
    unfold cell at h6
    rw [e2] at h6
    exact h6
  · obtain ⟨t, ht, e⟩ := List.getElem_of_mem hr
    have e2 : row S t = r := by simp [row, ht, e]
    have h5 := probB_row h ht
    rw [e2] at h5
    exact ⟨by omega, h5.2.1⟩

/-- the library's note on the length of a search -/
def Most (w : World) : Prop := ∃ m, w.cell? ⟨0, 0, none⟩ = some (.int .i64 m)
theorem Most.ext {w w' : World} (h : Most w) [e : Ext w w'] : Most w' := by
  obtain ⟨m, h⟩ := h
  exact ⟨m, e.cell h⟩
end Go.Proofs.YtohjbabjkjcddaaDoor
