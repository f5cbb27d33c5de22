/- OffsetsOf and OffsetSteps of the reference and of the program. Written by offsx.py. -/
import Derived.Test.YtobfehekjapnhaaOffsI
namespace Go.Proofs.Ytobfehekjapnhaa
open Go.RowKit

theorem offB_start {M S : List (List Int)} {s : Int} (h : startB M S s [] = false) : offB M S s = false := by simp [offB, h]
theorem offB_none {M S : List (List Int)} {s : Int} (h : offEnd M S s.toNat = none) : offB M S s = false := by simp [offB, h]
theorem offB_some {M S : List (List Int)} {s : Int} {n : Nat} (h0 : startB M S s [] = true) (h : offEnd M S s.toNat = some n) : offB M S s = true := by simp [offB, h0, h]
theorem offN_some {M S : List (List Int)} {s : Int} {n : Nat} (h : offEnd M S s.toNat = some n) : offN M S s = n := by simp [offN, h]
theorem offsL_false {M S : List (List Int)} {s : Int} (h : offB M S s = false) : offsL M S s = [] := by simp [offsL, h]
theorem stepsL_false {M S : List (List Int)} {s : Int} (h : offB M S s = false) : stepsL M S s = [] := by simp [stepsL, h]
theorem growsL_false {M S : List (List Int)} {s : Int} (h : offB M S s = false) : growsL M S s = [] := by simp [growsL, h]
theorem offsL_some {M S : List (List Int)} {s : Int} {n : Nat} (h0 : startB M S s [] = true) (h : offEnd M S s.toNat = some n) : offsL M S s = offLst M S s.toNat n := by rw [offsL, if_pos (offB_some h0 h), offN_some h]
theorem stepsL_some {M S : List (List Int)} {s : Int} {n : Nat} (h0 : startB M S s [] = true) (h : offEnd M S s.toNat = some n) : stepsL M S s = offStp M S s.toNat n := by rw [stepsL, if_pos (offB_some h0 h), offN_some h]
theorem growsL_some {M S : List (List Int)} {s : Int} {n : Nat} (h0 : startB M S s [] = true) (h : offEnd M S s.toNat = some n) : growsL M S s = offGrw M S s.toNat n := by rw [growsL, if_pos (offB_some h0 h), offN_some h]
theorem offGo_some {M S : List (List Int)} (hp : probB M S = true) {s n : Nat} : ∀ (f i : Nat), offGo M S s f i = some n → (offLst M S s i).length ≤ 400 → offOk M (offLst M S s i) → (offLst M S s n).length ≤ 400 ∧ n ≤ i + f ∧ offOk M (offLst M S s n)
  | 0, _, h, _, _ => by simp [offGo] at h
  | f + 1, i, h, hl, ho => by
    rw [offGo] at h
    split at h
    · rename_i hlt
      split at h
      · cases h
      · rename_i h4
        have := offGo_some hp f (i + 1) h (by omega) (rowLst_ok hp ho hlt (Nat.le_refl _))
        exact ⟨this.1, by omega, this.2.2⟩
    · cases h
      exact ⟨hl, by omega, ho⟩
theorem offEnd_some {M S : List (List Int)} {s : Int} {n : Nat} (h0 : startB M S s [] = true) (h : offEnd M S s.toNat = some n) : (offLst M S s.toNat n).length ≤ 400 ∧ n ≤ 500 ∧ offOk M (offLst M S s.toNat n) := by
  have hp := startB_prob h0
  have hs := startB_state h0
  have := offGo_some hp 500 0 h (by show [row M s.toNat].length ≤ 400; simp) (by
    intro x hx
    have hx' : x ∈ [row M s.toNat] := hx
    rw [List.mem_singleton.1 hx']
    exact row_ok hp (by omega))
  exact ⟨this.1, by omega, this.2.2⟩
theorem offB_end {M S : List (List Int)} {s : Int} (h : offB M S s = true) : startB M S s [] = true ∧ ∃ n, offEnd M S s.toNat = some n := by
  simp only [offB, Bool.and_eq_true] at h
  exact ⟨h.1, Option.isSome_iff_exists.1 h.2⟩
theorem offsL_len {M S : List (List Int)} {s : Int} : (offsL M S s).length ≤ 2000000 ∧ sumLen (offsL M S s) ≤ 2000000 := by
  cases h : offB M S s with
  | false => rw [offsL_false h]; simp [sumLen]
  | true =>
    obtain ⟨h0, n, hn⟩ := offB_end h
    rw [offsL_some h0 hn]
    obtain ⟨h1, h2, h3⟩ := offEnd_some h0 hn
    have h5 := probB_len (startB_prob h0)
    have h4 := sumLen_le (n := 4) (l := offLst M S s.toNat n) (fun x hx => by have := (h3 x hx).1; omega)
    omega
theorem stepsL_len {M S : List (List Int)} {s : Int} : (stepsL M S s).length ≤ 2000000 ∧ sumLen (stepsL M S s) ≤ 2000000 := by
  cases h : offB M S s with
  | false => rw [stepsL_false h]; simp [sumLen]
  | true =>
    obtain ⟨h0, n, hn⟩ := offB_end h
    rw [stepsL_some h0 hn]
    obtain ⟨h1, h2, h3⟩ := offEnd_some h0 hn
    have h5 := probB_len (startB_prob h0)
    have h4 := sumLen_le (n := 4) (l := offStp M S s.toNat n) (fun x hx => by
      obtain ⟨i, _, rfl⟩ := List.mem_map.1 hx
      rw [rowStp_length]; omega)
    have h6 := offStp_length M S s.toNat n
    omega
theorem growsL_len {M S : List (List Int)} {s : Int} : (growsL M S s).length ≤ 2000000 ∧ sumLen (growsL M S s) ≤ 2000000 := by
  cases h : offB M S s with
  | false => rw [growsL_false h]; simp [sumLen]
  | true =>
    obtain ⟨h0, n, hn⟩ := offB_end h
    rw [growsL_some h0 hn]
    obtain ⟨h1, h2, h3⟩ := offEnd_some h0 hn
    have h5 := probB_len (startB_prob h0)
    have h4 := sumLen_le (n := 4) (l := offGrw M S s.toNat n) (fun x hx => by
      obtain ⟨i, _, rfl⟩ := List.mem_map.1 hx
      rw [rowGrw_length]; omega)
    have h6 := offGrw_length M S s.toNat n
    omega

end Go.Proofs.Ytobfehekjapnhaa
