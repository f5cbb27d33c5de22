/- What the law of exchanges asks, in plain words. -/
import Derived.Test.YtmgcfnciejfpbaaGreatQQcP
import Derived.Test.YtmgcfnciejfpbaaGreatQGrI
namespace Go.Proofs.YtmgcfnciejfpbaaGreat
open Go.RowKit

--PURE
theorem fst_some {β : Type} {f : Nat → Option β} {b : β} : ∀ {n : Nat}, fstTo f n = some b → ∃ i, i < n ∧ f i = some b
  | 0, h => by cases h
  | n + 1, h => by
    rw [fstTo] at h
    cases h1 : fstTo f n with
    | some c =>
      rw [h1] at h
      obtain ⟨i, hi, e⟩ := fst_some (n := n) h1
      exact ⟨i, by omega, by rw [e]; exact h⟩
    | none =>
      rw [h1] at h
      exact ⟨n, by omega, h⟩
theorem exR_some {P : List (List Int)} {ws : List Int} {k : Nat} {b : Nat × Nat × Nat} (h : exR P ws k = some b) : ∃ i j s, b = (i, j, s) ∧ i < P.length ∧ j < P.length ∧ s < k ∧ exOk P ws (row P i) (row P j) s = false := by
  obtain ⟨i, hi, h1⟩ := fst_some h
  obtain ⟨j, hj, h2⟩ := fst_some h1
  obtain ⟨s, hs, h3⟩ := fst_some h2
  rw [exS3] at h3
  cases h4 : exOk P ws (row P i) (row P j) s with
  | true => rw [h4] at h3; cases h3
  | false =>
    rw [h4] at h3
    cases h3
    exact ⟨i, j, s, rfl, hi, hj, hs, h4⟩
theorem set_nth_self {x : List Int} {s : Nat} (h : s < x.length) : x.set s (nth x s) = x := by
  rw [show nth x s = x[s] by simp [nth, h]]
  exact List.set_getElem_self _
/-- a point that cannot be exchanged lies in the first configuration and not in the second -/
theorem ex_has {M : List (List Int)} {k : Int} {ws : List Int} (h : exbB M k ws = true) : hasB (exbX M k ws) (exbP M k ws) = true ∧ hasB (exbY M k ws) (exbP M k ws) = false := by
  cases ho : exbO M k ws with
  | none => rw [(exb_none ho).2.2.2] at h; cases h
  | some b =>
    have ho' := ho
    unfold exbO at ho
    split at ho
    · obtain ⟨i, j, s, rfl, hi, hj, hs, hf⟩ := exR_some ho
      obtain ⟨e1, e2, e3, _⟩ := exb_some ho'
      obtain ⟨x1, x2, x3⟩ := row_conf hi
      obtain ⟨y1, y2, y3⟩ := row_conf hj
      rw [e1, e2, e3]
      refine ⟨hasB_true.2 (nth_mem (by omega)), ?_⟩
      cases hh : hasB (row (confs M.length k.toNat 0) j) (nth (row (confs M.length k.toNat 0) i) s) with
      | false => rfl
      | true =>
        exfalso
        obtain ⟨t, ht, et⟩ := mem_iff_nth.1 (hasB_true.1 hh)
        have : exOk (confs M.length k.toNat 0) ws (row (confs M.length k.toNat 0) i) (row (confs M.length k.toNat 0) j) s = true := by
          refine exOk_yes (t := t) ht ?_
          have s1 := set_nth_self (x := row (confs M.length k.toNat 0) i) (s := s) (by omega)
          have s2 := set_nth_self ht
          rw [exS, svX, svX, ← et, s2, et, s1, sortL_of_asc x3, sortL_of_asc y3]
          exact Int.le_refl _
        rw [hf] at this
        cases this
    · cases ho
theorem exb_i64 {M : List (List Int)} {k : Int} {ws : List Int} : (∀ x ∈ exbX M k ws, I64 x) ∧ ∀ x ∈ exbY M k ws, I64 x := by
  cases ho : exbO M k ws with
  | none =>
    rw [(exb_none ho).1, (exb_none ho).2.1]
    exact ⟨fun x hx => by simp at hx, fun x hx => by simp at hx⟩
  | some b =>
    have ho' := ho
    unfold exbO at ho
    split at ho
    · rename_i hc
      simp only [Bool.and_eq_true] at hc
      have hM := met_len hc.1
      obtain ⟨i, j, s, rfl, hi, hj, hs, hf⟩ := exR_some ho
      obtain ⟨e1, e2, e3, _⟩ := exb_some ho'
      obtain ⟨x1, x2, x3⟩ := row_conf hi
      obtain ⟨y1, y2, y3⟩ := row_conf hj
      rw [e1, e2]
      exact ⟨fun x hx => by have := x2 x hx; unfold I64; omega, fun x hx => by have := y2 x hx; unfold I64; omega⟩
    · cases ho
/-- no work list after a sequence is broken -/
theorem ex_never {M : List (List Int)} {a X : List Int} (h : srvB M a X = true) {i : Nat} (hi : i ≤ X.length) : exbB M a.length (wlAt M (confs M.length a.length 0) a X i) = false := by
  obtain ⟨hd, hk, ha, hX, hl⟩ := srv_all h
  have h1 : exbO M a.length (wlAt M (confs M.length a.length 0) a X i) = none := by
    unfold exbO
    rw [Int.toNat_natCast]
    split
    · exact ex_none hd hk.1 hk.2 ha hX (by omega) hi
    · rfl
  exact (exb_none h1).2.2.2
end Go.Proofs.YtmgcfnciejfpbaaGreat
