/- Sorting and compacting a list of one's own; the numbers of a list in ascending order; one point moved. -/
import Derived.Test.YtnlbjbnjjkilhaaPackA
import Derived.Sort.OwnSortedInts
import Derived.Lib.OwnBridge
namespace Go.Proofs.Ytnlbjbnjjkilhaa
open Go.RowKit

def sortL (xs : List Int) : List Int := xs.mergeSort fun x y => decide (x ≤ y)
theorem sortL_perm (xs : List Int) : (sortL xs).Perm xs := List.mergeSort_perm _ _
theorem sortL_len (xs : List Int) : (sortL xs).length = xs.length := (sortL_perm xs).length_eq
theorem sortL_asc (xs : List Int) : Asc (sortL xs) := by
  have h := List.pairwise_mergeSort (le := fun x y : Int => decide (x ≤ y)) (fun a b c h1 h2 => by simp at *; omega) (fun a b => by simp; omega) xs
  exact h.imp (fun h => by simpa using h)
set_option maxHeartbeats 400000 in
theorem sort_any {w : World} {B e : Nat} {v : Value} {xs : List Int} {R : List Row} (own : Own w B (intRowOf e v xs :: R)) (hB : B ≤ w.heap.size) (hl : xs.length ≤ 17592186044415) :
    Calls Try.prog 32 #[v] w fun ee w' => ee = .returned (.tuple #[]) ∧ Own w' B (intRowOf e v (sortL xs) :: R) ∧ Below B w w' := by
  rcases own.head.2 with ⟨h1, h2⟩ | ⟨g, cap, cur, hv, hb, hg, hc, hm, hz, ht⟩
  · have hx : xs = [] := List.eq_nil_of_length_eq_zero h2
    subst hx
    have h1' : v = .slice none 0 0 := h1
    subst h1'
    refine (Try.slices_Sort_int_none none 0 w).mono ?_
    rintro ee w' ⟨rfl, rfl⟩
    have e0 : sortL [] = [] := by simp [sortL]
    rw [e0]
    exact ⟨rfl, own, Below.refl _ _⟩
  · have hv' : v = .slice (some ⟨g, 0, none⟩) xs.length cap := hv
    subst hv'
    have ht' : cur.toList.take xs.length = xs.map (Value.int .i64) := by rw [← Nat.mul_one xs.length]; exact ht
    have hgl := (own.head.lt g rfl).2
    refine (Try.slices_Sort_int g 0 cap xs w (holds_of_blockI hg ht') hgl (by omega)).mono ?_
    rintro ee w' ⟨rfl, n, os, rfl⟩
    have hgr := grownBy_sortedI (w := w) (g := g) (n := n) (os := os) (sortL xs).toArray
    have ho := ownsRow_sortedI (w := w) (base := B) (n := n) (os := os) (ss := xs) (ts := sortL xs) (sortL_len xs) hb hg hc hm hz
    refine ⟨rfl, own.turn (r' := intRowOf e (.slice (some ⟨g, 0, none⟩) xs.length cap) (sortL xs)) ?_ hgr (.inl rfl), below_of_grown own.head hgr hB⟩
    show World.ownsRow _ B e 1 (.slice (some ⟨g, 0, none⟩) xs.length cap) (sortL xs).length ((sortL xs).map (Value.int .i64))
    rw [sortL_len]
    exact ho
end Go.Proofs.Ytnlbjbnjjkilhaa
