/- Metrics of places on a line, as draws make them. -/
import Derived.Test.YtdohjmbhgjfcaaaDoorUni
namespace Go.Proofs.YtdohjmbhgjfcaaaDoor
open Go.RowKit

theorem l1Most_any (a b : Int) (w : World) :
    Calls Tryd.prog 139 #[.int .i64 a, .int .i64 b] w fun e w' => e = .returned (.int .i64 (max a b)) ∧ w = w' := by
  by_cases h : a > b
  · have hr := hid (show max a b = a by omega)
    have h' : decide (b < a) = true := by simpa using h
    go_enter Tryd.func139, Tryd.ntmps139
    go_wp2
    go_ret
    exact ⟨ret_int hr.out.symm, rfl⟩
  · have hr := hid (show max a b = b by omega)
    have h' : decide (b < a) = false := by simpa using h
    go_enter Tryd.func139, Tryd.ntmps139
    go_wp2
    go_ret
    exact ⟨ret_int hr.out.symm, rfl⟩
/-- n rows of n numbers each, all small -/
def TabOk (M : List (List Int)) (n : Nat) : Prop := M.length = n ∧ ∀ j, j < n → (row M j).length = n ∧ ∀ q, q < n → -100000 ≤ cell M j q ∧ cell M j q ≤ 100000
theorem TabOk.set {M : List (List Int)} {n : Nat} (h : TabOk M n) {j : Nat} (q : Nat) {x : Int} (hj : j < n) (hx : -100000 ≤ x ∧ x ≤ 100000) : TabOk (M.set j ((row M j).set q x)) n := by
  obtain ⟨h1, h2⟩ := h
  refine ⟨by rw [List.length_set, h1], fun i hi => ?_⟩
  by_cases e : i = j
  · subst e
    have er : row (M.set i ((row M i).set q x)) i = (row M i).set q x := by
      unfold row
      rw [List.getD_eq_getElem?_getD, List.getElem?_set_self (by omega)]
      rfl
    refine ⟨by rw [er, List.length_set]; exact (h2 i hi).1, fun p hp => ?_⟩
    unfold cell
    rw [er]
    by_cases e2 : p = q
    · subst e2
      have : nth ((row M i).set p x) p = x := by
        unfold nth
        rw [List.getD_eq_getElem?_getD, List.getElem?_set_self (by rw [(h2 i hi).1]; exact hp)]
        rfl
      rw [this]; exact hx
    · have : nth ((row M i).set q x) p = nth (row M i) p := by
        unfold nth
        rw [List.getD_eq_getElem?_getD, List.getElem?_set_ne (Ne.symm e2), List.getD_eq_getElem?_getD]
      rw [this]
      exact (h2 i hi).2 p hp
  · have er : row (M.set j ((row M j).set q x)) i = row M i := by
      unfold row
      rw [List.getD_eq_getElem?_getD, List.getElem?_set_ne (Ne.symm e), List.getD_eq_getElem?_getD]
    unfold cell
    rw [er]
    exact h2 i hi
theorem TabOk.uni {n : Nat} {d : Int} (hd : -100000 ≤ d ∧ d ≤ 100000) : TabOk (uniTab (fun x y => if x = y then 0 else d) n n) n := by
  refine ⟨uniTab_length _ _ _, fun j hj => ?_⟩
  have er : row (uniTab (fun x y => if x = y then 0 else d) n n) j = uniRow (fun x y => if x = y then 0 else d) j n := by simp [row, uniTab, hj]
  refine ⟨by rw [er, uniRow_length], fun q hq => ?_⟩
  unfold cell
  rw [er]
  have : nth (uniRow (fun x y => if x = y then 0 else d) j n) q = if j = q then 0 else d := by simp [nth, uniRow, hq]
  rw [this]
  split <;> omega

end Go.Proofs.YtdohjmbhgjfcaaaDoor
