/- The states in which a request can be served; the number of algorithms. -/
import Derived.Test.YtohjbabjkjcddaaLawC
import Derived.Deep.Cut
namespace Go.Proofs.Ytohjbabjkjcddaa
open Go.RowKit

/-- the indices below k of numbers that are not negative -/
def servedTo (cs : List Int) (k : Nat) : List Int := ((List.range k).filter fun i => decide (0 ≤ nth cs i)).map fun i : Nat => (i : Int)
def servedL (cs : List Int) : List Int := servedTo cs cs.length
theorem servedTo_succ_yes {cs : List Int} {k : Nat} (h : 0 ≤ nth cs k) : servedTo cs (k + 1) = servedTo cs k ++ [(k : Int)] := by
  simp [servedTo, List.range_succ, List.filter_append, h]
theorem servedTo_succ_no {cs : List Int} {k : Nat} (h : ¬ 0 ≤ nth cs k) : servedTo cs (k + 1) = servedTo cs k := by
  simp [servedTo, List.range_succ, List.filter_append, h]
theorem servedTo_length (cs : List Int) (k : Nat) : (servedTo cs k).length ≤ k := by
  induction k with
  | zero => simp [servedTo]
  | succ k ih =>
    by_cases h : 0 ≤ nth cs k
    · rw [servedTo_succ_yes h]; simp; omega
    · rw [servedTo_succ_no h]; omega
theorem servedTo_mem {cs : List Int} {k : Nat} {x : Int} : x ∈ servedTo cs k ↔ ∃ i : Nat, i < k ∧ 0 ≤ nth cs i ∧ x = i := by
  simp only [servedTo, List.mem_map, List.mem_filter, List.mem_range, decide_eq_true_eq]
  constructor
  · rintro ⟨i, ⟨h1, h2⟩, rfl⟩; exact ⟨i, h1, h2, rfl⟩
  · rintro ⟨i, h1, h2, rfl⟩; exact ⟨i, ⟨h1, h2⟩, rfl⟩
theorem servedTo_i64 {cs : List Int} {k : Nat} (hk : k ≤ 17592186044415) : ∀ x ∈ servedTo cs k, I64 x := by
  intro x hx
  obtain ⟨i, h1, _, rfl⟩ := servedTo_mem.1 hx
  unfold I64
  omega

/-- the behind of an append: the value's form -/
theorem Own.formInts {w : World} {B e : Nat} {v : Value} {xs : List Int} {R : List Row} (h : Own w B (intRowOf e v xs :: R)) : ∃ d m, v = .slice d xs.length m := h.form
theorem own_snoc {w : World} {B e : Nat} {v : Value} {xs : List Int} {x : Int} {n : Nat} {R : List Row} (h : Own w B (⟨e, 1, v, n + 1, xs.map (Value.int .i64) ++ [.int .i64 x]⟩ :: R)) (hn : n = xs.length) : Own w B (intRowOf e v (xs ++ [x]) :: R) := by
  subst hn
  unfold intRowOf
  rw [List.map_append, List.length_append]
  exact h

end Go.Proofs.Ytohjbabjkjcddaa
