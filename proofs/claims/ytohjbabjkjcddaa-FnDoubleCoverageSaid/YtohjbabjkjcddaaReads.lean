/- What owned memory reads as, by the reading of what it was copied from. -/
import Derived.Test.YtohjbabjkjcddaaLawC
namespace Go.Proofs.Ytohjbabjkjcddaa
open Go.RowKit

theorem IsInts.all {w : World} {v : Value} {xs : List Int} (h : IsInts w v xs) : Short xs.length ∧ ∀ x ∈ xs, I64 x := by
  obtain ⟨a, c, _, h2, h3, _⟩ := h
  exact ⟨h2.1, h3⟩
theorem Own.reads' {w w0 : World} {B e : Nat} {v v0 : Value} {xs : List Int} {R : List Row} (h : Own w B (intRowOf e v xs :: R)) (h0 : IsInts w0 v0 xs) : IsInts w v xs :=
  h.reads h0.all.1 h0.all.2
theorem Own.readsAll' {w w0 : World} {B e1 e2 : Nat} {u v0 : Value} {vs : List Value} {M : List (List Int)} (h : Own w B (rowsOf e1 e2 u vs M)) (hl : vs.length = M.length) (h0 : IsRows w0 v0 M) : IsRows w u M := by
  have h' : Own w B (rowsOf e1 e2 u vs M ++ []) := by rw [List.append_nil]; exact h
  exact h'.readsAll hl h0.all.1 h0.all.2.1 h0.all.2.2

end Go.Proofs.Ytohjbabjkjcddaa
