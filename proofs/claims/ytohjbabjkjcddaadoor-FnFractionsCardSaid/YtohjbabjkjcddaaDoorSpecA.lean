/- The reference's tests of a metric and a problem. -/
import Derived.Test.YtohjbabjkjcddaaDoorLawA
namespace Go.Proofs.YtohjbabjkjcddaaDoor
open Go.RowKit

/-- whether a number lies in a range -/
def inB (x a b : Int) : Bool := decide (a ≤ x ∧ x ≤ b)
theorem inB_true {x a b : Int} : inB x a b = true ↔ a ≤ x ∧ x ≤ b := by simp [inB]
theorem inB_false {x a b : Int} : inB x a b = false ↔ ¬ (a ≤ x ∧ x ≤ b) := by rw [← inB_true, Bool.not_eq_true]

theorem inB_ge {x a b : Int} (h1 : a ≤ x) : inB x a b = decide (x ≤ b) := by simp [inB, h1]
theorem inB_lt {x a b : Int} (h1 : ¬ a ≤ x) : inB x a b = false := by simp [inB, h1]

set_option maxHeartbeats 400000 in
theorem l1In_any (x a b : Int) (w : World) :
    Calls Tryd.prog 50 #[.int .i64 x, .int .i64 a, .int .i64 b] w fun e w' => e = .returned (.bool (inB x a b)) ∧ w = w' := by
  by_cases h1 : a ≤ x
  · have hr := hid (inB_ge (b := b) h1)
    go_enter Tryd.func50, Tryd.ntmps50
    go_wp2
    go_ret
    exact ⟨ret_bool hr.out.symm, rfl⟩
  · have hr := hid (inB_lt (b := b) h1)
    have h1' : x < a := by omega
    clear h1
    go_enter Tryd.func50, Tryd.ntmps50
    go_wp2
    go_ret
    exact ⟨ret_bool hr.out.symm, rfl⟩

/-- whether the costs of a request are right -/
def costsOk (costs : List Int) : Bool := decide (∀ c ∈ costs, -1 ≤ c ∧ c ≤ 20)
def canServe (costs : List Int) : Bool := decide (∃ c ∈ costs, 0 ≤ c)
def reqB (n : Int) (costs : List Int) : Bool := costsOk costs && decide ((costs.length : Int) = n) && canServe costs

theorem canServe_take {costs : List Int} {k : Nat} (h : k < costs.length) : canServe (costs.take (k + 1)) = (canServe (costs.take k) || decide (0 ≤ nth costs k)) := by
  rw [take_succ_nth h, Bool.eq_iff_iff]
  simp [canServe, or_and_right, exists_or]
theorem costsOk_take {costs : List Int} {k : Nat} (h : k < costs.length) : costsOk (costs.take (k + 1)) = (costsOk (costs.take k) && inB (nth costs k) (-1) 20) := by
  rw [take_succ_nth h, Bool.eq_iff_iff]
  simp only [costsOk, inB, Bool.and_eq_true, decide_eq_true_eq, List.mem_append, List.mem_singleton]
  constructor
  · exact fun h => ⟨fun c hc => h c (.inl hc), h _ (.inr rfl)⟩
  · rintro ⟨h1, h2⟩ c (hc | rfl)
    · exact h1 c hc
    · exact h2
theorem costsOk_not {costs : List Int} {k : Nat} (h : k < costs.length) (hb : inB (nth costs k) (-1) 20 = false) : costsOk costs = false := by
  rw [Bool.eq_false_iff]
  intro hc
  simp only [costsOk, decide_eq_true_eq] at hc
  exact inB_false.1 hb (hc _ (nth_mem h))

/-- the cell of a table -/
def cell (M : List (List Int)) (x y : Nat) : Int := nth (row M x) y
/-- whether a cell of a table is right -/
def cellOk (M : List (List Int)) (x y : Nat) : Bool := decide (cell M x y = cell M y x) && (if x = y then decide (cell M x y = 0) else inB (cell M x y) 1 99)
def square (M : List (List Int)) : Bool := decide (∀ r ∈ M, r.length = M.length)
def cellsOk (M : List (List Int)) : Bool := decide (∀ x, x < M.length → ∀ y, y < M.length → cellOk M x y = true)
def tableB (M : List (List Int)) : Bool := inB M.length 1 6 && square M && cellsOk M
theorem square_row {M : List (List Int)} (h : square M = true) {x : Nat} (hx : x < M.length) : (row M x).length = M.length := by
  simp only [square, decide_eq_true_eq] at h
  exact h _ (row_mem hx)
theorem square_not {M : List (List Int)} {x : Nat} (hx : x < M.length) (h : (row M x).length ≠ M.length) : square M = false := by
  rw [Bool.eq_false_iff]
  intro h'
  exact h (square_row h' hx)
theorem square_of {M : List (List Int)} (h : ∀ x, x < M.length → (row M x).length = M.length) : square M = true := by
  simp only [square, decide_eq_true_eq]
  intro r hr
  obtain ⟨k, hk, rfl⟩ := mem_iff_row.1 hr
  exact h k hk
theorem cellsOk_not {M : List (List Int)} {x y : Nat} (hx : x < M.length) (hy : y < M.length) (h : cellOk M x y = false) : cellsOk M = false := by
  rw [Bool.eq_false_iff]
  intro h'
  simp only [cellsOk, decide_eq_true_eq] at h'
  rw [h' x hx y hy] at h
  cases h

/-- A value that reads as a metric of distances M. -/
def IsMet (w : World) (v : Value) (M : List (List Int)) : Prop := ∃ v1, v = .agg #[v1] ∧ IsRows w v1 M

end Go.Proofs.YtohjbabjkjcddaaDoor
