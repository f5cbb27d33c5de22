/- Whether a list has a number, and where first. -/
import Derived.Test.YtohjbabjkjcddaaLawA
namespace Go.Proofs.Ytohjbabjkjcddaa
open Go.RowKit

def hasB (xs : List Int) (x : Int) : Bool := decide (x ∈ xs)
theorem hasB_true {xs : List Int} {x : Int} : hasB xs x = true ↔ x ∈ xs := by simp [hasB]
theorem hasB_false {xs : List Int} {x : Int} : hasB xs x = false ↔ x ∉ xs := by simp [hasB]
/-- the place where a number stands first, or -1 -/
def ixOf (xs : List Int) (x : Int) : Int := if x ∈ xs then (xs.idxOf x : Int) else -1
theorem ixOf_at {xs : List Int} {x : Int} {k : Nat} (hk : k < xs.length) (h : nth xs k = x) (hno : ∀ j, j < k → nth xs j ≠ x) : ixOf xs x = k := by
  have hm : x ∈ xs := mem_iff_nth.2 ⟨k, hk, h⟩
  rw [ixOf, if_pos hm]
  have hlt := List.idxOf_lt_length_of_mem hm
  have h1 : nth xs (xs.idxOf x) = x := by
    simp [nth, hlt]
  by_cases h2 : xs.idxOf x < k
  · exact absurd h1 (hno _ h2)
  · by_cases h3 : xs.idxOf x = k
    · rw [h3]
    · exfalso
      have h4 : k < xs.idxOf x := by omega
      have h5 := List.not_of_lt_findIdx (p := fun y => y == x) (xs := xs) (i := k) h4
      have h6 : xs[k]'hk = x := by simpa [nth, hk] using h
      rw [h6] at h5
      simp at h5
theorem ixOf_none {xs : List Int} {x : Int} (h : x ∉ xs) : ixOf xs x = -1 := by rw [ixOf, if_neg h]
theorem ixOf_in {xs : List Int} {x : Int} (h : x ∈ xs) : 0 ≤ ixOf xs x ∧ ixOf xs x < xs.length ∧ nth xs (ixOf xs x).toNat = x := by
  rw [ixOf, if_pos h]
  have hlt := List.idxOf_lt_length_of_mem h
  refine ⟨by omega, by omega, ?_⟩
  simp [nth, hlt]
theorem ixOf_ge {xs : List Int} {x : Int} : decide (0 ≤ ixOf xs x) = hasB xs x := by
  by_cases h : x ∈ xs
  · have := (ixOf_in h).1
    rw [hasB_true.2 h]; simpa using this
  · rw [hasB_false.2 h, ixOf_none h]; rfl

set_option maxHeartbeats 400000 in
set_option maxRecDepth 100000 in
theorem sIndex_any {v : Value} {xs : List Int} {x : Int} {w0 w : World} [Ext w0 w] (hx : IsInts w0 v xs) :
    Calls Try.prog 93 #[v, .int .i64 x] w fun e w' => e = .returned (.int .i64 (ixOf xs x)) ∧ w = w' := by
  obtain ⟨a, c, rfl, la⟩ := hx.form
  go_enter Try.func93, Try.ntmps93
  go_wp2
  go_loop [8] (fun i => ∃ k : Nat, k ≤ xs.length ∧ i = .int .i64 k ∧ Hid (∀ j, j < k → nth xs j ≠ x)) (fun i => xs.length - (intOf i).toNat)
  case atStart => exact ⟨0, by omega, rfl, by intro j hj; omega⟩
  case round =>
    obtain ⟨k, hk, rfl, hno⟩ := hrel
    by_cases hlt : k < xs.length
    · obtain ⟨b, o, rfl, hc⟩ := hx.at (w' := w) hlt
      by_cases he : x = nth xs k
      · have hr := hid (ixOf_at hlt he.symm hno.out)
        have hb : (x == nth xs k) = true := by simp [he]
        replace he := hid he
        go_wp2
        go_ret
        exact ⟨ret_int hr.out.symm, rfl⟩
      · have hb : (x == nth xs k) = false := by simpa using he
        replace he := hid he
        go_wp2
        go_round
        case rel =>
          refine ⟨k + 1, by omega, by go_num, fun j hj => ?_⟩
          by_cases e : j = k
          · rw [e]; exact fun h => he.out h.symm
          · exact hno.out j (by omega)
        case measure => simp [intOf]; omega
    · have hr := hid (show ixOf xs x = -1 from ixOf_none fun h => by
        obtain ⟨j, hj, e⟩ := mem_iff_nth.1 h
        exact hno.out j (by omega) e)
      go_wp2
      go_ret
      exact ⟨ret_int hr.out.symm, rfl⟩

theorem sContains_any {v : Value} {xs : List Int} {x : Int} {w0 w : World} [Ext w0 w] (hx : IsInts w0 v xs) :
    Calls Try.prog 119 #[v, .int .i64 x] w fun e w' => e = .returned (.bool (hasB xs x)) ∧ w = w' := by
  have hr := hid (ixOf_ge (xs := xs) (x := x))
  go_enter Try.func119, Try.ntmps119
  go_wp2_with fail
  refine (sIndex_any (w0 := w0) hx).mono ?_
  rintro e w1 ⟨rfl, rfl⟩
  generalize ixOf xs x = q at *
  go_wp2_with fail
  go_ret
  exact ⟨ret_bool hr.out, rfl⟩

set_option maxHeartbeats 400000 in
set_option maxRecDepth 100000 in
theorem l1Has_any {v : Value} {xs : List Int} {x : Int} {w0 w : World} [Ext w0 w] (hx : IsInts w0 v xs) :
    Calls Try.prog 95 #[v, .int .i64 x] w fun e w' => e = .returned (.bool (hasB xs x)) ∧ w = w' := by
  obtain ⟨a, c, rfl, la⟩ := hx.form
  go_enter Try.func95, Try.ntmps95
  go_wp2
  go_loop [5] (fun i => ∃ k : Nat, k ≤ xs.length ∧ i = .int .i64 k ∧ Hid (∀ j, j < k → nth xs j ≠ x)) (fun i => xs.length - (intOf i).toNat)
  case atStart => exact ⟨0, by omega, rfl, by intro j hj; omega⟩
  case round =>
    obtain ⟨k, hk, rfl, hno⟩ := hrel
    by_cases hlt : k < xs.length
    · obtain ⟨b, o, rfl, hc⟩ := hx.at (w' := w) hlt
      by_cases he : nth xs k = x
      · have hr := hid (show hasB xs x = true from hasB_true.2 (mem_iff_nth.2 ⟨k, hlt, he⟩))
        have hb : (nth xs k == x) = true := by simp [he]
        replace he := hid he
        go_wp2
        go_ret
        exact ⟨ret_bool hr.out.symm, rfl⟩
      · have hb : (nth xs k == x) = false := by simpa using he
        replace he := hid he
        go_wp2
        go_round
        case rel =>
          refine ⟨k + 1, by omega, by go_num, fun j hj => ?_⟩
          by_cases e : j = k
          · rw [e]; exact he.out
          · exact hno.out j (by omega)
        case measure => simp [intOf]; omega
    · have hr := hid (show hasB xs x = false from hasB_false.2 fun h => by
        obtain ⟨j, hj, e⟩ := mem_iff_nth.1 h
        exact hno.out j (by omega) e)
      go_wp2
      go_ret
      exact ⟨ret_bool hr.out.symm, rfl⟩
end Go.Proofs.Ytohjbabjkjcddaa
