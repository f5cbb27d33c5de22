/- Numbers in ascending order: the reference's way. -/
import Derived.Test.YtaphnkgjcmneoaaGreatDoorSwp
namespace Go.Proofs.YtaphnkgjcmneoaaGreatDoor
open Go.RowKit

theorem IsInts.cut {w : World} {a : Option Addr} {n c : Nat} {xs : List Int} (h : IsInts w (.slice a n c) xs) {k : Nat} (hk : k ≤ xs.length) : IsInts w (.slice a k c) (xs.take k) := by
  obtain ⟨a', c', h1, h2, h3, h4⟩ := h
  cases h1
  have hl : (xs.take k).length = k := by rw [List.length_take]; omega
  refine ⟨a, c, by rw [hl], ⟨by have := h2.1; unfold Short at this ⊢; omega, by have := h2.2; omega⟩, fun x hx => h3 x (List.mem_of_mem_take hx), fun j hj => ?_⟩
  rw [hl] at hj
  obtain ⟨b, o, h5, h6⟩ := h4 j (by omega)
  refine ⟨b, o, h5, ?_⟩
  rw [h6]
  simp [nth, hj]
theorem IsInts.tailAt {w : World} {b o n c : Nat} {xs : List Int} (h : IsInts w (.slice (some ⟨b, o, none⟩) n c) xs) {k : Nat} (hk : k ≤ xs.length) : IsInts w (.slice (some ⟨b, o + k, none⟩) (n - k) (c - k)) (xs.drop k) := by
  obtain ⟨a', c', h1, h2, h3, h4⟩ := h
  cases h1
  have hl : (xs.drop k).length = xs.length - k := List.length_drop
  refine ⟨_, _, by rw [hl], ⟨by have := h2.1; unfold Short at this ⊢; omega, by have := h2.2; omega⟩, fun x hx => h3 x (List.mem_of_mem_drop hx), fun j hj => ?_⟩
  rw [hl] at hj
  obtain ⟨b', o', h5, h6⟩ := h4 (k + j) (by omega)
  cases h5
  refine ⟨b, o + k, rfl, ?_⟩
  rw [Nat.add_assoc, h6]
  simp [nth]
theorem ints_zero (u : World) (d : Option Addr) (c : Nat) : IsInts u (.slice d 0 c) [] := ⟨d, c, rfl, ⟨Nat.zero_le _, Nat.zero_le _⟩, by simp, fun j hj => by simp at hj⟩
theorem own_some {w : World} {B e n c : Nat} {d : Option Addr} {xs : List Int} {R : List Row} (h : Own w B (⟨e, 1, .slice d n c, n, xs.map (Value.int .i64)⟩ :: R)) : 0 < c → ∃ g, d = some ⟨g, 0, none⟩ := by
  intro hc
  rcases h.head.2 with ⟨h1, _⟩ | ⟨g, cap, cur, hv, _⟩
  · have h1' : Value.slice d n c = .slice none 0 0 := h1
    cases h1'
    omega
  · have hv' : Value.slice d n c = .slice (some ⟨g, 0, none⟩) n cap := hv
    cases hv'
    exact ⟨g, rfl⟩
/-- insertion -/
theorem ins_sort {xs : List Int} {x : Int} {k : Nat} (hs : Asc xs) (hk : k ≤ xs.length) (h1 : ∀ j, j < k → nth xs j ≤ x) (h2 : k < xs.length → x ≤ nth xs k) {l : List Int} (hp : xs.Perm l) : xs.take k ++ [x] ++ xs.drop k = sortL (l ++ [x]) := by
  refine asc_uniq ?_ (sortL_asc _) ?_
  · rw [Asc, List.append_assoc, List.pairwise_append]
    refine ⟨hs.sublist (List.take_sublist _ _), ?_, fun a ha b hb => ?_⟩
    · rw [List.singleton_append, List.pairwise_cons]
      refine ⟨fun b hb => ?_, hs.sublist (List.drop_sublist _ _)⟩
      obtain ⟨j, hj, rfl⟩ := mem_iff_nth.1 hb
      rw [List.length_drop] at hj
      have e : nth (xs.drop k) j = nth xs (k + j) := by simp [nth]
      rw [e]
      have h3 := h2 (by omega)
      rcases Nat.eq_zero_or_pos j with h | h
      · subst h; exact h3
      · have := (List.pairwise_iff_getElem.1 hs) k (k + j) (by omega) (by omega) (by omega)
        have e1 : nth xs k = xs[k]'(by omega) := by simp [nth, show k < xs.length by omega]
        have e2 : nth xs (k + j) = xs[k + j]'(by omega) := by simp [nth, show k + j < xs.length by omega]
        omega
    · have ha' := ha
      obtain ⟨i, hi, rfl⟩ := mem_iff_nth.1 ha
      rw [List.length_take] at hi
      have e : nth (xs.take k) i = nth xs i := by simp [nth, show i < k by omega]
      rcases List.mem_append.1 hb with hb | hb
      · rw [List.mem_singleton] at hb
        rw [hb, e]
        exact h1 i (by omega)
      · obtain ⟨j, hj, rfl⟩ := mem_iff_nth.1 hb
        rw [List.length_drop] at hj
        have e2 : nth (xs.drop k) j = nth xs (k + j) := by simp [nth]
        have := (List.pairwise_iff_getElem.1 hs) i (k + j) (by omega) (by omega) (by omega)
        have e3 : nth xs i = xs[i]'(by omega) := by simp [nth, show i < xs.length by omega]
        have e4 : nth xs (k + j) = xs[k + j]'(by omega) := by simp [nth, show k + j < xs.length by omega]
        rw [e, e2, e3, e4]
        exact this
  · refine List.Perm.trans ?_ (sortL_perm _).symm
    have p1 : (xs.take k ++ [x] ++ xs.drop k).Perm (x :: (xs.take k ++ xs.drop k)) := by
      rw [List.append_assoc]
      exact List.perm_middle
    rw [List.take_append_drop] at p1
    exact p1.trans ((hp.cons x).trans (List.perm_append_singleton x l).symm)

end Go.Proofs.YtaphnkgjcmneoaaGreatDoor
