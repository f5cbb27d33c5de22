/- The reference's next work list and the program's are one. -/
import Derived.Test.YtpiplhgiphndeaaWnx
namespace Go.Proofs.Ytpiplhgiphndeaa
open Go.RowKit

--PURE
/-- the reference's least over the first servers; -1 ahead of the first -/
def snAt (M P : List (List Int)) (ws : List Int) (r : Int) (i : Nat) : Nat → Int
  | 0 => -1
  | s + 1 => if snAt M P ws r i s < 0 ∨ swS M P ws r i s < snAt M P ws r i s then swS M P ws r i s else snAt M P ws r i s
theorem snAt_le {M P : List (List Int)} {ws : List Int} {r : Int} {i : Nat} : ∀ k, 1 ≤ k → (∀ s, s < k → 0 ≤ swS M P ws r i s) → (∀ s, s < k → snAt M P ws r i k ≤ swS M P ws r i s) ∧ ∃ s, s < k ∧ snAt M P ws r i k = swS M P ws r i s := by
  intro k
  induction k with
  | zero => intro h; omega
  | succ k ih =>
    intro _ h0
    by_cases hk : k = 0
    · subst hk
      have e : snAt M P ws r i (0 + 1) = swS M P ws r i 0 := by rw [snAt, if_pos (.inl (by simp [snAt]))]
      exact ⟨fun s hs => by rw [e, show s = 0 by omega]; exact Int.le_refl _, 0, by omega, e⟩
    · obtain ⟨h1, s1, h2, h3⟩ := ih (by omega) (fun s hs => h0 s (by omega))
      have h4 := h0 s1 (by omega)
      by_cases h5 : swS M P ws r i k < snAt M P ws r i k
      · have e : snAt M P ws r i (k + 1) = swS M P ws r i k := by rw [snAt, if_pos (.inr h5)]
        refine ⟨fun s hs => ?_, k, by omega, e⟩
        by_cases h6 : s = k
        · rw [e, h6]; exact Int.le_refl _
        · have := h1 s (by omega)
          omega
      · have e : snAt M P ws r i (k + 1) = snAt M P ws r i k := by rw [snAt, if_neg (by omega)]
        refine ⟨fun s hs => ?_, s1, by omega, by rw [e, h3]⟩
        by_cases h6 : s = k
        · rw [e, h6]; omega
        · have := h1 s (by omega)
          omega
theorem next_eq {M : List (List Int)} {n k i : Nat} {r : Int} {ws : List Int} (hd : Dst M n) (h1 : 1 ≤ k) (hk : k ≤ 3) (hw : LipW M (confs n k 0) ws) (hb : ∀ j, j < (confs n k 0).length → 0 ≤ nth ws j ∧ nth ws j ≤ 1000000) (hc : ∀ x y : Nat, x < n → y < n → 0 ≤ cell M x y ∧ cell M x y ≤ 99) (hi : i < (confs n k 0).length) (hr : 0 ≤ r ∧ r < (n : Int)) :
    snAt M (confs n k 0) ws r i k = wxAt M (confs n k 0) ws r (confs n k 0).length i := by
  have hin : ∀ s, s < k → 0 ≤ swS M (confs n k 0) ws r i s ∧ swS M (confs n k 0) ws r i s ≤ 1000099 := by
    intro s hs
    obtain ⟨g1, g2, g3⟩ := row_conf hi
    obtain ⟨hm, _⟩ := sw_conf hi hs hr
    have h2 := hb _ (atR_lt hm).1
    have h3 := g2 _ (nth_mem (show s < (row (confs n k 0) i).length by omega))
    have h4 := hc (nth (row (confs n k 0) i) s).toNat r.toNat (by omega) (by omega)
    unfold swS
    omega
  obtain ⟨h2, s, hs, h3⟩ := snAt_le k h1 (fun s hs => (hin s hs).1)
  obtain ⟨h4, h5, h6⟩ := wxAt_le (M := M) (P := confs n k 0) (ws := ws) (r := r) (i := i) (confs n k 0).length
  obtain ⟨j, hj, hrj, hle⟩ := sw_via (ws := ws) hd hk hi hs hr
  have h7 := h5 j hj hrj
  have h8 := hin s hs
  rcases h6 with h6 | ⟨t, ht, hrt, h6⟩
  · omega
  · obtain ⟨s', hs', h9⟩ := via_sw hd hk hw hi ht hrt
    have := h2 s' hs'
    omega
end Go.Proofs.Ytpiplhgiphndeaa
