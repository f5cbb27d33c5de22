/- WorkFunction and LeastCost of the reference and of the program. Written by works.py. -/
import Derived.Test.YtmabejallkjjmaaGrC
namespace Go.Proofs.Ytmabejallkjjmaa
open Go.RowKit

def wfR (M S : List (List Int)) (s : Int) (X : List Int) : List Int := if startB M S s X = true then workL M S (row M s.toNat) X else []
def lcR (M S : List (List Int)) (s : Int) (X : List Int) : Int := if startB M S s X = true then optL M S (row M s.toNat) X else 0
theorem wfR_false {M S : List (List Int)} {s : Int} {X : List Int} (h : startB M S s X = false) : wfR M S s X = [] := by simp [wfR, h]
theorem wfR_true {M S : List (List Int)} {s : Int} {X : List Int} (h : startB M S s X = true) : wfR M S s X = workL M S (row M s.toNat) X := by simp [wfR, h]
theorem lcR_false {M S : List (List Int)} {s : Int} {X : List Int} (h : startB M S s X = false) : lcR M S s X = 0 := by simp [lcR, h]
theorem lcR_true {M S : List (List Int)} {s : Int} {X : List Int} (h : startB M S s X = true) : lcR M S s X = optL M S (row M s.toNat) X := by simp [lcR, h]
theorem wfR_len {M S : List (List Int)} {s : Int} {X : List Int} : (wfR M S s X).length ≤ 4000000 := by
  unfold wfR
  split
  · rename_i h
    have h1 := (start_workL h).1
    have h2 := probB_len (startB_prob h)
    omega
  · simp

end Go.Proofs.Ytmabejallkjjmaa
