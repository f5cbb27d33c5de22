/- The work function after one more request, as the program makes it. -/
import Derived.Test.YtmgcfnciejfpbaaGreatNext
import Derived.Test.YtmgcfnciejfpbaaGreatRep
import Derived.Test.YtmgcfnciejfpbaaGreatMark
import Derived.StillTailTactics
namespace Go.Proofs.YtmgcfnciejfpbaaGreat
open Go.RowKit

/-- the list when j served states are done, and x places of the next one -/
def mixAt (M S : List (List Int)) (w : List Int) (r j y : Nat) : Int := ((servedL (row S r)).take j).foldl (minB (wsum M S w r y)) 1073741824
def mixL (M S : List (List Int)) (w : List Int) (r j x : Nat) : List Int := (List.range w.length).map fun y => mixAt M S w r (if y < x then j + 1 else j) y
theorem mixL_length (M S : List (List Int)) (w : List Int) (r j x : Nat) : (mixL M S w r j x).length = w.length := by simp [mixL]
theorem nth_mixL {M S : List (List Int)} {w : List Int} {r j x y : Nat} (h : y < w.length) : nth (mixL M S w r j x) y = mixAt M S w r (if y < x then j + 1 else j) y := by simp [mixL, nth, h]
theorem mixL_zero (M S : List (List Int)) (w : List Int) (r : Nat) : mixL M S w r 0 0 = List.replicate w.length 1073741824 := by
  refine eq_of_nth (by rw [mixL_length, List.length_replicate]) fun y hy => ?_
  rw [mixL_length] at hy
  rw [nth_mixL hy]
  simp [mixAt, nth, hy]
theorem mixL_full (M S : List (List Int)) (w : List Int) (r j : Nat) : mixL M S w r j w.length = mixL M S w r (j + 1) 0 := by
  refine eq_of_nth (by rw [mixL_length, mixL_length]) fun y hy => ?_
  rw [mixL_length] at hy
  rw [nth_mixL hy, nth_mixL hy, if_pos hy, if_neg (by omega)]
theorem mixL_all (M S : List (List Int)) (w : List Int) (r : Nat) : mixL M S w r (servedL (row S r)).length 0 = nextL M S w r := by
  refine eq_of_nth (by rw [mixL_length, nextL_length]) fun y hy => ?_
  rw [mixL_length] at hy
  rw [nth_mixL hy, nth_nextL hy, if_neg (by omega), mixAt, List.take_length]
  rfl
theorem mixL_set {M S : List (List Int)} {w : List Int} {r j x : Nat} (hx : x < w.length) : ((mixL M S w r j x).map (Value.int .i64)).set x (.int .i64 (mixAt M S w r (j + 1) x)) = (mixL M S w r j (x + 1)).map (Value.int .i64) := by
  rw [← List.map_set]
  congr 1
  refine eq_of_nth (by rw [List.length_set, mixL_length, mixL_length]) fun y hy => ?_
  rw [List.length_set, mixL_length] at hy
  rw [nth_mixL hy]
  by_cases h : y = x
  · subst h
    simp [nth, mixL_length, hy]
  · have e : nth ((mixL M S w r j x).set x (mixAt M S w r (j + 1) x)) y = nth (mixL M S w r j x) y := by
      simp [nth, Ne.symm h]
    rw [e, nth_mixL hy]
    by_cases h2 : y < x
    · rw [if_pos h2, if_pos (by omega)]
    · rw [if_neg h2, if_neg (by omega)]
theorem mixAt_succ {M S : List (List Int)} {w : List Int} {r j y : Nat} (hj : j < (servedL (row S r)).length) : mixAt M S w r (j + 1) y = minB (wsum M S w r y) (mixAt M S w r j y) (nth (servedL (row S r)) j) := foldTake _ _ hj
theorem mixAt_in {M S : List (List Int)} (hp : probB M S = true) {w : List Int} {B : Int} (hw : wOk M w B) {r y : Nat} (hr : r < S.length) (hy : y < M.length) (j : Nat) : 0 ≤ mixAt M S w r j y ∧ mixAt M S w r j y ≤ 1073741824 := by
  obtain ⟨h1, _, h3⟩ := foldB_le (f := wsum M S w r y) ((servedL (row S r)).take j) 1073741824
  refine ⟨?_, h1⟩
  rcases h3 with h3 | ⟨t, ht, h3⟩
  · unfold mixAt; omega
  · have := wsum_in hp hw hr hy (List.mem_of_mem_take ht)
    unfold mixAt; omega

end Go.Proofs.YtmgcfnciejfpbaaGreat
