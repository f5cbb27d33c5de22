/- GreedyAlgorithm and LazyAlgorithm of the reference and of the program. Written by madex.py. -/
import Derived.Test.YtkniohcmhdgbeaaMade
namespace Go.Proofs.Ytkniohcmhdgbeaa
open Go.RowKit

def gaR (M S : List (List Int)) (lz : Bool) : List (List Int) := if probB M S = true then madeL M S lz else []
theorem gaR_false {M S : List (List Int)} {lz : Bool} (h : probB M S = false) : gaR M S lz = [] := by simp [gaR, h]
theorem gaR_true {M S : List (List Int)} {lz : Bool} (h : probB M S = true) : gaR M S lz = madeL M S lz := by simp [gaR, h]
theorem madeL_length (M S : List (List Int)) (lz : Bool) : (madeL M S lz).length = M.length := byTo_length _ _ _
theorem madeL_row {M S : List (List Int)} {lz : Bool} {x : List Int} (h : x ∈ madeL M S lz) : ∃ s, s < M.length ∧ x = byRow (madeAt M S lz) s S.length := by
  obtain ⟨s, hs, rfl⟩ := List.mem_map.1 h
  exact ⟨s, List.mem_range.1 hs, rfl⟩
theorem madeAt_in {M S : List (List Int)} (hp : probB M S = true) {lz : Bool} {s r : Nat} (hs : s < M.length) (hr : r < S.length) : 0 ≤ madeAt M S lz s r ∧ madeAt M S lz s r < M.length := by
  unfold madeAt
  split
  · omega
  · have := arg_in hp (c := stepC M S r s) hr
    have h2 : greedyAt M S s r = (servedL (row S r)).foldl (argStep (stepC M S r s)) (-1) := by rw [greedyAt, Int.toNat_natCast]
    rw [h2]
    have h3 := this.1
    have h4 := this.2.1
    omega
theorem madeL_facts {M S : List (List Int)} (hp : probB M S = true) (lz : Bool) : ShortRows (madeL M S lz).length ∧ (∀ r ∈ madeL M S lz, Short r.length) ∧ ∀ r ∈ madeL M S lz, ∀ x ∈ r, I64 x := by
  have hn := probB_len hp
  refine ⟨by rw [madeL_length]; unfold ShortRows; omega, fun x hx => ?_, fun x hx y hy => ?_⟩
  all_goals obtain ⟨s, hs, rfl⟩ := madeL_row hx
  · rw [byRow_length]; unfold Short; omega
  · obtain ⟨r, hr, rfl⟩ := List.mem_map.1 hy
    have := madeAt_in hp (lz := lz) hs (List.mem_range.1 hr)
    unfold I64; omega
theorem gaR_len {M S : List (List Int)} {lz : Bool} : (gaR M S lz).length ≤ 2000000 ∧ sumLen (gaR M S lz) ≤ 2000000 := by
  unfold gaR
  split
  · rename_i h
    have hn := probB_len h
    have h1 := madeL_length M S lz
    have h2 := sumLen_le (n := 4) (l := madeL M S lz) (fun x hx => by
      obtain ⟨s, hs, rfl⟩ := madeL_row hx
      rw [byRow_length]; omega)
    rw [h1] at h2 ⊢
    omega
  · simp [sumLen]

end Go.Proofs.Ytkniohcmhdgbeaa
