/- Several texts in one: Ord OrdS Mat MatS. -/
import Derived.Test.YtkibmjenjgijmabGrD
import Derived.Test.YtkibmjenjgijmabGrC
/- The orders of the numbers below k: of the program and of the reference. -/
namespace Go.Proofs.Ytkibmjenjgijmab
open Go.RowKit

theorem Tab.formN {w : World} {B : Nat} {v : Value} {M : List (List Int)} {R : List Row} (h : Tab w B v M R) : ∃ d n m, v = .slice d n m ∧ Hid (n = M.length) := by
  obtain ⟨d, m, h⟩ := h.form
  exact ⟨d, _, m, h, rfl⟩
theorem TabX.rformN {w : World} {B : Nat} {v rv : Value} {M : List (List Int)} {xs : List Int} {R : List Row} (h : TabX w B v M rv xs R) : ∃ d n m, rv = .slice d n m ∧ Hid (n = xs.length) := by
  obtain ⟨d, m, h⟩ := h.rform
  exact ⟨d, _, m, h, rfl⟩
theorem Tab.sealed {w : World} {B : Nat} {v : Value} {M : List (List Int)} {R : List Row} (h : Tab w B v M R) (hs : ShortRows M.length) (hr : ∀ r ∈ M, Short r.length) (hi : ∀ r ∈ M, ∀ x ∈ r, I64 x) :
    ∃ R' : List Row, ∃ f : Nat → Value, Own w B R' ∧ ∀ z, Own z B R' → IsRows z v M ∧ ∀ j, j < M.length → ∃ b o n c d m, v = .slice (some ⟨b, o, none⟩) n c ∧ f j = .slice d (row M j).length m ∧ z.cell? ⟨b, o + j, none⟩ = some (f j) ∧ IsInts z (f j) (row M j) := by
  obtain ⟨vs, h1, h2⟩ := h
  refine ⟨_, fun j => vs.getD j undef, h2, fun z hz => ⟨hz.readsAll h1 hs hr hi, fun j hj => ?_⟩⟩
  have h3 : Own z B (⟨22, 1, v, vs.length, vs⟩ :: (List.zipWith (intRowOf 3) vs M ++ R)) := hz
  obtain ⟨a, c, hv⟩ := h3.form
  have hv' : v = .slice a vs.length c := hv
  subst hv'
  have hj' : j < vs.length := by omega
  obtain ⟨g, rfl⟩ := h3.at hj'
  have h4 : (List.zipWith (intRowOf 3) vs M ++ R)[j]? = some (intRowOf 3 (vs.getD j undef) (row M j)) := by
    rw [List.getElem?_append_left (by simp; omega)]
    simp [List.getElem?_zipWith, hj', row, hj]
  have h5 := (h3.tail.pick h4).reads (hr _ (row_mem hj)) (hi _ (row_mem hj))
  obtain ⟨d, m, h6, _⟩ := h5.form
  refine ⟨g, 0, _, c, d, m, rfl, h6, ?_, h5⟩
  rw [Nat.zero_add]
  exact h3.cellAt (w' := z) hj'
theorem Tab.one (w : World) : Tab ((w.alloc (.cells #[] 3)).alloc (.cells #[.slice (some ⟨w.heap.size, 0, none⟩) 0 0] 22)) w.heap.size (.slice (some ⟨w.heap.size + 1, 0, none⟩) 1 1) [[]] [] := by
  have h1 := (Own.nil w w.heap.size).lit 3 1 0 #[] (Nat.le_refl _) (by unfold maxLen; omega) rfl
  have h2 := h1.lit 22 1 1 #[.slice (some ⟨w.heap.size, 0, none⟩) 0 0] (by simp) (by unfold maxLen; omega) rfl
  rw [show (w.alloc (.cells #[] 3)).heap.size = w.heap.size + 1 by simp] at h2
  exact ⟨[.slice (some ⟨w.heap.size, 0, none⟩) 0 0], rfl, h2⟩

end Go.Proofs.Ytkibmjenjgijmab

/- The orders of the numbers below k: of the reference. -/
namespace Go.Proofs.Ytkibmjenjgijmab
open Go.RowKit

end Go.Proofs.Ytkibmjenjgijmab

/- The best matching of two configurations and its cost: the program's. -/
namespace Go.Proofs.Ytkibmjenjgijmab
open Go.RowKit

theorem IsInts.pt {w w' : World} {a : Option Addr} {n c : Nat} {xs : List Int} (h : IsInts w (.slice a n c) xs) {q : Nat} (hp : Pts q xs) [e : Ext w w'] {k : Nat} (hk : k < xs.length) :
    ∃ b o, ∃ x : Nat, a = some ⟨b, o, none⟩ ∧ nth xs k = x ∧ x < q ∧ w'.cell? ⟨b, o + k, none⟩ = some (.int .i64 (x : Int)) := by
  obtain ⟨b, o, h1, h2⟩ := h.at (w' := w') hk
  have := hp _ (nth_mem hk)
  refine ⟨b, o, (nth xs k).toNat, h1, by omega, by omega, ?_⟩
  rw [h2, Int.toNat_of_nonneg this.1]

end Go.Proofs.Ytkibmjenjgijmab

/- The best matching of two configurations and its cost: the reference's. -/
namespace Go.Proofs.Ytkibmjenjgijmab
open Go.RowKit

theorem ints_none (u : World) (d : Option Addr) (c : Nat) : IsInts u (.slice d 0 c) [] := ⟨d, c, rfl, ⟨Nat.zero_le _, Nat.zero_le _⟩, by simp, fun j hj => by simp at hj⟩
def lstM (F : List Int → Int) (P : List (List Int)) (j : Nat) : Int := if j = 0 then -1 else (bestTo F P 1073741824 j).2
theorem lstM_or (F : List Int → Int) (P : List (List Int)) (j : Nat) : (j = 0 ∧ lstM F P j = -1) ∨ (0 < j ∧ lstM F P j = (bestTo F P 1073741824 j).2) := by
  unfold lstM
  by_cases h : j = 0
  · exact .inl ⟨h, if_pos h⟩
  · exact .inr ⟨by omega, if_neg h⟩
theorem lstM_succ (F : List Int → Int) (P : List (List Int)) (j : Nat) : lstM F P (j + 1) = (bestTo F P 1073741824 (j + 1)).2 := if_neg (by omega)

end Go.Proofs.Ytkibmjenjgijmab

