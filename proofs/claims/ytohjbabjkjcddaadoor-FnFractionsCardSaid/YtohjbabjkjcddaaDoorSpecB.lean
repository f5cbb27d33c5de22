/- The reference's search for a detour; its tests of a metric and a problem, whole. -/
import Derived.Test.YtohjbabjkjcddaaDoorSpecA
import Derived.Test.YtohjbabjkjcddaaDoorLawC
namespace Go.Proofs.YtohjbabjkjcddaaDoor
open Go.RowKit

def detourAt (M : List (List Int)) (x y z : Nat) : Bool := decide (cell M x y + cell M y z < cell M x z)
abbrev NoDetour (M : List (List Int)) : Prop := ∀ x, x < M.length → ∀ y, y < M.length → ∀ z, z < M.length → detourAt M x y z = false
/-- what is known of the first detour -/
def FirstDet (M : List (List Int)) (xs : List Int) : Prop :=
  (NoDetour M ∧ xs = []) ∨ ∃ x y z : Nat, x < M.length ∧ y < M.length ∧ z < M.length ∧ detourAt M x y z = true ∧ xs = [(x : Int), (y : Int), (z : Int)] ∧
    (∀ x', x' < x → ∀ y', y' < M.length → ∀ z', z' < M.length → detourAt M x' y' z' = false) ∧ (∀ y', y' < y → ∀ z', z' < M.length → detourAt M x y' z' = false) ∧ (∀ z', z' < z → detourAt M x y z' = false)

theorem tableB_square {M : List (List Int)} (h : tableB M = true) : square M = true := by
  simp only [tableB, Bool.and_eq_true] at h; exact h.1.2
theorem tableB_len {M : List (List Int)} (h : tableB M = true) : 1 ≤ M.length ∧ M.length ≤ 6 := by
  simp only [tableB, Bool.and_eq_true] at h
  have := inB_true.1 h.1.1
  omega
theorem tableB_cell {M : List (List Int)} (h : tableB M = true) {x y : Nat} (hx : x < M.length) (hy : y < M.length) : 0 ≤ cell M x y ∧ cell M x y ≤ 99 := by
  simp only [tableB, Bool.and_eq_true, cellsOk, decide_eq_true_eq] at h
  have h1 := h.2 x hx y hy
  simp only [cellOk, Bool.and_eq_true, decide_eq_true_eq] at h1
  obtain ⟨_, h2⟩ := h1
  split at h2
  · rw [decide_eq_true_eq] at h2; omega
  · have := inB_true.1 h2; omega

/-- Row x of a table, its cell y: where it lies. -/
theorem IsRows.cellAt {w w' : World} {b o c n : Nat} {M : List (List Int)} (h : IsRows w (.slice (some ⟨b, o, none⟩) n c) M) (hs : square M = true) [e : Ext w w'] {x y : Nat} (hx : x < M.length) (hy : y < M.length) :
    ∃ d p m, w'.cell? ⟨b, o + x, none⟩ = some (.slice (some ⟨d, p, none⟩) M.length m) ∧ w'.cell? ⟨d, p + y, none⟩ = some (.int .i64 (cell M x y)) ∧ (∀ y', y' < M.length → w'.cell? ⟨d, p + y', none⟩ = some (.int .i64 (cell M x y'))) := by
  obtain ⟨b1, o1, d1, m1, h1, hc1, hr1, _⟩ := h.at (w' := w') hx
  cases h1
  have hl := square_row hs hx
  rw [hl] at hr1 hc1
  obtain ⟨d, p, rfl, hc2⟩ := hr1.at (w' := w') (k := y) (by omega)
  refine ⟨d, p, m1, hc1, hc2, fun y' hy' => ?_⟩
  obtain ⟨d', p', h2, hc3⟩ := hr1.at (w' := w') (k := y') (by omega)
  cases h2
  exact hc3

/-- whether distances are a metric -/
def NoDetB (M : List (List Int)) : Bool := decide (NoDetour M)
def metB (M : List (List Int)) : Bool := tableB M && NoDetB M
def probB (M S : List (List Int)) : Bool := inB M.length 1 4 && metB M && inB S.length 1 4 && decide (∀ r ∈ S, reqB M.length r = true)

theorem NoDetB_of {M : List (List Int)} {xs : List Int} (h : FirstDet M xs) : NoDetB M = decide (xs = []) := by
  rcases h with ⟨h1, h2⟩ | ⟨x, y, z, hx, hy, hz, h1, h2, _⟩
  · rw [h2, NoDetB, decide_eq_true h1]; rfl
  · rw [decide_eq_false (by rw [h2]; simp), NoDetB, decide_eq_false]
    intro h
    rw [h x hx y hy z hz] at h1
    cases h1

end Go.Proofs.YtohjbabjkjcddaaDoor
