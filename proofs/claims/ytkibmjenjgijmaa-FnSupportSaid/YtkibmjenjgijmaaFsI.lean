/- FromSupport, the program's. -/
import Derived.Test.YtkibmjenjgijmaaFsQ
import Derived.Test.YtkibmjenjgijmaaGrF
import Derived.Test.YtkibmjenjgijmaaGrH
import Derived.Test.YtkibmjenjgijmaaGrJ
import Derived.Test.YtkibmjenjgijmaaWsv
import Derived.StillTailTactics
namespace Go.Proofs.Ytkibmjenjgijmaa
open Go.RowKit

/-- what the program tests -/
def fsBad (M C : List (List Int)) (a : List Int) : Bool := !cfgB M.length a || decide (¬ a.length = (row C 0).length)
def fsI (M C : List (List Int)) (V : List Int) : Bool := metB M && (inB C.length 1 56 && (decide (V.length = C.length) && (belowB 100000 V && !(C.any (fsBad M C)))))
theorem fsI_ok {M C : List (List Int)} {V : List Int} : fsI M C V = fsOk M C V := by
  rw [Bool.eq_iff_iff, fsOk_iff]
  simp only [fsI, Bool.and_eq_true, decide_eq_true_eq]
  constructor
  · rintro ⟨h1, h2, h3, h4, h5⟩
    refine ⟨h1, inB_true.1 h2 |> fun h => by omega, h3, fun i hi => ?_⟩
    have h6 : fsBad M C (row C i) = false := by
      cases hb : fsBad M C (row C i) with
      | false => rfl
      | true =>
        have : C.any (fsBad M C) = true := List.any_eq_true.2 ⟨_, row_mem hi, hb⟩
        rw [this] at h5
        cases h5
    simp only [fsBad, Bool.or_eq_false_iff, decide_eq_false_iff_not] at h6
    have h7 := belowB_at h4 (k := i) (by omega)
    refine fsC_iff.2 ⟨?_, ?_, by omega⟩
    · exact Classical.byContradiction fun h => h6.2 h
    · cases hc : cfgB M.length (row C i) with
      | true => rfl
      | false => rw [hc] at h6; exact absurd h6.1 (by simp)
  · rintro ⟨h1, h2, h3, h4⟩
    refine ⟨h1, inB_true.2 (by omega), h3, belowB_of fun k hk => inB_true.2 ?_, ?_⟩
    · have := (fsC_iff.1 (h4 k (by omega))).2.2
      omega
    · cases ha : C.any (fsBad M C) with
      | false => rfl
      | true =>
        obtain ⟨a, hm, hb⟩ := List.any_eq_true.1 ha
        obtain ⟨i, hi, rfl⟩ := mem_iff_row.1 hm
        obtain ⟨k1, k2, _⟩ := fsC_iff.1 (h4 i hi)
        rw [fsBad, k2] at hb
        simp [k1] at hb
/-- the value at a configuration when j values are seen, as the program makes it -/
def fiAt (M C : List (List Int)) (V x : List Int) : Nat → Int
  | 0 => 1073741824
  | j + 1 => if nth V j + mvC M (row C j) x < fiAt M C V x j then nth V j + mvC M (row C j) x else fiAt M C V x j
theorem fi_eq {M C : List (List Int)} {V x : List Int} (h : ∀ t, t < C.length → 0 ≤ nth V t + mvC M (row C t) x ∧ nth V t + mvC M (row C t) x ≤ 1000000) : ∀ j, j ≤ C.length → 1 ≤ j → fiAt M C V x j = fsAt M C V x j := by
  have key : ∀ j, j ≤ C.length → (j = 0 ∨ (fiAt M C V x j = fsAt M C V x j ∧ 0 ≤ fsAt M C V x j)) := by
    intro j
    induction j with
    | zero => intro _; exact .inl rfl
    | succ j ih =>
      intro hj
      have h1 := h j (by omega)
      refine .inr ?_
      rw [fiAt, fsAt]
      rcases ih (by omega) with h0 | ⟨h2, h3⟩
      · subst h0
        rw [if_pos (by simp [fiAt]; omega), if_pos (.inl (by simp [fsAt]))]
        exact ⟨rfl, by omega⟩
      · rw [h2]
        by_cases hc : nth V j + mvC M (row C j) x < fsAt M C V x j
        · rw [if_pos hc, if_pos (.inr hc)]
          exact ⟨rfl, by omega⟩
        · rw [if_neg hc, if_neg (by omega)]
          exact ⟨rfl, h3⟩
  intro j hj h1
  rcases key j hj with h0 | ⟨h2, _⟩
  · omega
  · exact h2
theorem fi_in {M C : List (List Int)} {V x : List Int} (h : ∀ t, t < C.length → 0 ≤ nth V t + mvC M (row C t) x ∧ nth V t + mvC M (row C t) x ≤ 1000000) : ∀ j, j ≤ C.length → 0 ≤ fiAt M C V x j ∧ fiAt M C V x j ≤ 1073741824
  | 0, _ => by simp [fiAt]
  | j + 1, hj => by
    have h1 := fi_in h j (by omega)
    have h2 := h j (by omega)
    rw [fiAt]
    split <;> omega
/-- the list in the making: the first x places have seen one configuration more -/
def fiL (M C P : List (List Int)) (V : List Int) (j x : Nat) : List Int := (List.range P.length).map fun y => fiAt M C V (row P y) (if y < x then j + 1 else j)
theorem fiL_length {M C P : List (List Int)} {V : List Int} {j x : Nat} : (fiL M C P V j x).length = P.length := by simp [fiL]
theorem nth_fiL {M C P : List (List Int)} {V : List Int} {j x y : Nat} (h : y < P.length) : nth (fiL M C P V j x) y = fiAt M C V (row P y) (if y < x then j + 1 else j) := by simp [fiL, nth, h]
theorem fiL_zero {M C P : List (List Int)} {V : List Int} : fiL M C P V 0 0 = List.replicate P.length 1073741824 := by
  refine eq_of_nth (by rw [fiL_length, List.length_replicate]) fun y hy => ?_
  rw [fiL_length] at hy
  rw [nth_fiL hy]
  simp [fiAt, nth, hy]
theorem fiL_full {M C P : List (List Int)} {V : List Int} {j : Nat} : fiL M C P V j P.length = fiL M C P V (j + 1) 0 := by
  refine eq_of_nth (by rw [fiL_length, fiL_length]) fun y hy => ?_
  rw [fiL_length] at hy
  rw [nth_fiL hy, nth_fiL hy, if_pos hy, if_neg (by omega)]
theorem fiL_set {M C P : List (List Int)} {V : List Int} {j x : Nat} (hx : x < P.length) : ((fiL M C P V j x).map (Value.int .i64)).set x (.int .i64 (fiAt M C V (row P x) (j + 1))) = (fiL M C P V j (x + 1)).map (Value.int .i64) := by
  rw [← List.map_set]
  congr 1
  refine eq_of_nth (by rw [List.length_set, fiL_length, fiL_length]) fun y hy => ?_
  rw [List.length_set, fiL_length] at hy
  rw [nth_fiL hy]
  by_cases h : y = x
  · subst h
    simp [nth, fiL_length, hy]
  · have e : nth ((fiL M C P V j x).set x (fiAt M C V (row P x) (j + 1))) y = nth (fiL M C P V j x) y := by
      simp [nth, Ne.symm h]
    rw [e, nth_fiL hy]
    by_cases h2 : y < x
    · rw [if_pos h2, if_pos (by omega)]
    · rw [if_neg h2, if_neg (by omega)]
end Go.Proofs.Ytkibmjenjgijmaa
