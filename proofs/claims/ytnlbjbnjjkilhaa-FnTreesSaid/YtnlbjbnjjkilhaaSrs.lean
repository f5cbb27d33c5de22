/- Numbers in ascending order: the reference's way. -/
import Derived.Test.YtnlbjbnjjkilhaaSwp
namespace Go.Proofs.Ytnlbjbnjjkilhaa
open Go.RowKit

theorem IsInts.cut {w : World} {a : Option Addr} {n c : Nat} {xs : List Int} (h : IsInts w (.slice a n c) xs) {k : Nat} (hk : k ≤ xs.length) : IsInts w (.slice a k c) (xs.take k) := by
  obtain ⟨a', c', h1, h2, h3, h4⟩ := h
  cases h1
  have hl : (xs.take k).length = k := by rw [List.length_take]; omega
  refine ⟨a, c, by rw [hl], ⟨by have := h2.1; unfold Short at this ⊢; omega, by have := h2.2; omega⟩, fun x hx => h3 x (List.mem_of_mem_take hx), fun j hj => ?_⟩
  rw [hl] at hj
  obtain ⟨b, o, h5, h6⟩ := h4 j (by omega)
  refine ⟨b, o, h5, ?_⟩
  rw [h6]
  simp [nth, hj]
theorem IsInts.tailAt {w : World} {b o n c : Nat} {xs : List Int} (h : IsInts w (.slice (some ⟨b, o, none⟩) n c) xs) {k : Nat} (hk : k ≤ xs.length) : IsInts w (.slice (some ⟨b, o + k, none⟩) (n - k) (c - k)) (xs.drop k) := by
  obtain ⟨a', c', h1, h2, h3, h4⟩ := h
  cases h1
  have hl : (xs.drop k).length = xs.length - k := List.length_drop
  refine ⟨_, _, by rw [hl], ⟨by have := h2.1; unfold Short at this ⊢; omega, by have := h2.2; omega⟩, fun x hx => h3 x (List.mem_of_mem_drop hx), fun j hj => ?_⟩
  rw [hl] at hj
  obtain ⟨b', o', h5, h6⟩ := h4 (k + j) (by omega)
  cases h5
  refine ⟨b, o + k, rfl, ?_⟩
  rw [Nat.add_assoc, h6]
  simp [nth]
theorem ints_zero (u : World) (d : Option Addr) (c : Nat) : IsInts u (.slice d 0 c) [] := ⟨d, c, rfl, ⟨Nat.zero_le _, Nat.zero_le _⟩, by simp, fun j hj => by simp at hj⟩
theorem own_some {w : World} {B e n c : Nat} {d : Option Addr} {xs : List Int} {R : List Row} (h : Own w B (⟨e, 1, .slice d n c, n, xs.map (Value.int .i64)⟩ :: R)) : 0 < c → ∃ g, d = some ⟨g, 0, none⟩ := by
  intro hc
  rcases h.head.2 with ⟨h1, _⟩ | ⟨g, cap, cur, hv, _⟩
  · have h1' : Value.slice d n c = .slice none 0 0 := h1
    cases h1'
    omega
  · have hv' : Value.slice d n c = .slice (some ⟨g, 0, none⟩) n cap := hv
    cases hv'
    exact ⟨g, rfl⟩
end Go.Proofs.Ytnlbjbnjjkilhaa
