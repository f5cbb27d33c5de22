/- Plain words on matchings: sums place by place, and what a metric gives. -/
import Derived.Test.YtohjbabjkjcddaaMovP
import Derived.Test.YtohjbabjkjcddaaSpecB
namespace Go.Proofs.Ytohjbabjkjcddaa
open Go.RowKit

--PURE
def cTo (M : List (List Int)) (a c : List Int) : Nat → Int
  | 0 => 0
  | i + 1 => cTo M a c i + cell M (nth a i).toNat (nth c i).toNat
theorem cTo_cons (M : List (List Int)) (x y : Int) (a c : List Int) : ∀ i, cTo M (x :: a) (y :: c) (i + 1) = cell M x.toNat y.toNat + cTo M a c i
  | 0 => by simp [cTo, nth]
  | i + 1 => by
    rw [cTo, cTo_cons M x y a c i, cTo]
    have h1 : nth (x :: a) (i + 1) = nth a i := rfl
    have h2 : nth (y :: c) (i + 1) = nth c i := rfl
    rw [h1, h2]
    omega
theorem costL_cTo (M : List (List Int)) : ∀ (a c : List Int), a.length = c.length → costL M a c = cTo M a c a.length
  | [], c, _ => by rw [costL_nil]; rfl
  | x :: a, [], h => by simp at h
  | x :: a, y :: c, h => by
    rw [List.length_cons, cTo_cons, costL, costL_cTo M a c (by simpa using h)]
theorem cTo_in {M : List (List Int)} {n : Nat} (hd : Dst M n) {a c : List Int} (ha : Pts n a) (hc : Pts n c) : ∀ {i : Nat}, i ≤ a.length → i ≤ c.length → 0 ≤ cTo M a c i ∧ cTo M a c i ≤ 99 * i
  | 0, _, _ => by simp [cTo]
  | i + 1, h1, h2 => by
    have ih := cTo_in hd ha hc (i := i) (by omega) (by omega)
    have h3 := ha _ (nth_mem (xs := a) (k := i) (by omega))
    have h4 := hc _ (nth_mem (xs := c) (k := i) (by omega))
    have := hd.pos (nth a i).toNat (nth c i).toNat (by omega) (by omega)
    rw [cTo]
    omega
theorem nth_pick {b l : List Int} {i : Nat} (h : i < l.length) : nth (pickL b l) i = nth b (nth l i).toNat := by simp [pickL, nth, h]
theorem pick_len (b l : List Int) : (pickL b l).length = l.length := by simp [pickL]
theorem dst_of_met {M : List (List Int)} (h : metB M = true) : Dst M M.length := by
  simp only [metB, Bool.and_eq_true] at h
  obtain ⟨ht, hn⟩ := h
  have hc : ∀ x y, x < M.length → y < M.length → cellOk M x y = true := fun x y hx hy => by
    simp only [tableB, Bool.and_eq_true] at ht
    have := ht.2
    simp only [cellsOk, decide_eq_true_eq] at this
    exact this x hx y hy
  simp only [NoDetB, decide_eq_true_eq] at hn
  refine ⟨fun x y hx hy => tableB_cell ht hx hy, fun x hx => ?_, fun x y hx hy hz => ?_, fun x y hx hy => ?_, fun x y z hx hy hz => ?_⟩
  · have := hc x x hx hx
    simp only [cellOk, Bool.and_eq_true, if_true] at this
    simpa using this.2
  · by_cases e : x = y
    · exact e
    · have := hc x y hx hy
      simp only [cellOk, Bool.and_eq_true, if_neg e] at this
      have := inB_true.1 this.2
      omega
  · have := hc x y hx hy
    simp only [cellOk, Bool.and_eq_true] at this
    simpa using this.1
  · have := hn x hx y hy z hz
    simp only [detourAt, decide_eq_false_iff_not] at this
    omega
theorem met_sq {M : List (List Int)} (h : metB M = true) : square M = true := by
  simp only [metB, Bool.and_eq_true] at h
  exact tableB_square h.1
theorem met_len {M : List (List Int)} (h : metB M = true) : 1 ≤ M.length ∧ M.length ≤ 6 := by
  simp only [metB, Bool.and_eq_true] at h
  exact tableB_len h.1
end Go.Proofs.Ytohjbabjkjcddaa
