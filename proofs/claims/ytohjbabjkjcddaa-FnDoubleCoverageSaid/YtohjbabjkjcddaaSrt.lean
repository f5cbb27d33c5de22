/- Sorting and compacting a list of one's own; the numbers of a list in ascending order; one point moved. -/
import Derived.Test.YtohjbabjkjcddaaShelf
import Derived.Test.YtohjbabjkjcddaaHas
import Derived.Test.YtohjbabjkjcddaaSl
import Derived.Test.YtohjbabjkjcddaaCfgP
import Derived.Sort.OwnSortedInts
import Derived.Lib.OwnBridge
namespace Go.Proofs.Ytohjbabjkjcddaa
open Go.RowKit

def sortL (xs : List Int) : List Int := xs.mergeSort fun x y => decide (x ≤ y)
theorem sortL_perm (xs : List Int) : (sortL xs).Perm xs := List.mergeSort_perm _ _
theorem sortL_len (xs : List Int) : (sortL xs).length = xs.length := (sortL_perm xs).length_eq
theorem sortL_asc (xs : List Int) : Asc (sortL xs) := by
  have h := List.pairwise_mergeSort (le := fun x y : Int => decide (x ≤ y)) (fun a b c h1 h2 => by simp at *; omega) (fun a b => by simp; omega) xs
  exact h.imp (fun h => by simpa using h)
theorem asc_uniq : ∀ {a b : List Int}, Asc a → Asc b → a.Perm b → a = b
  | [], b, _, _, p => (List.eq_nil_of_length_eq_zero (by simpa using p.length_eq.symm)).symm
  | x :: a, [], _, _, p => by simpa using p.length_eq
  | x :: a, y :: b, h1, h2, p => by
    have h1' := List.pairwise_cons.1 h1
    have h2' := List.pairwise_cons.1 h2
    have hx : x ∈ y :: b := p.mem_iff.1 (by simp)
    have hy : y ∈ x :: a := p.mem_iff.2 (by simp)
    have e : x = y := by
      rcases List.mem_cons.1 hx with e | hx
      · exact e
      · rcases List.mem_cons.1 hy with e | hy
        · exact e.symm
        · have := h1'.1 y hy
          have := h2'.1 x hx
          omega
    subst e
    rw [asc_uniq h1'.2 h2'.2 (p.cons_inv)]
theorem sortL_of_asc {xs : List Int} (h : Asc xs) : sortL xs = xs := asc_uniq (sortL_asc xs) h (sortL_perm xs)

set_option maxHeartbeats 400000 in
theorem sort_any {w : World} {B e : Nat} {v : Value} {xs : List Int} {R : List Row} (own : Own w B (intRowOf e v xs :: R)) (hB : B ≤ w.heap.size) (hl : xs.length ≤ 17592186044415) :
    Calls Try.prog 78 #[v] w fun ee w' => ee = .returned (.tuple #[]) ∧ Own w' B (intRowOf e v (sortL xs) :: R) ∧ Below B w w' := by
  rcases own.head.2 with ⟨h1, h2⟩ | ⟨g, cap, cur, hv, hb, hg, hc, hm, hz, ht⟩
  · have hx : xs = [] := List.eq_nil_of_length_eq_zero h2
    subst hx
    have h1' : v = .slice none 0 0 := h1
    subst h1'
    refine (Try.slices_Sort_int_none none 0 w).mono ?_
    rintro ee w' ⟨rfl, rfl⟩
    have e0 : sortL [] = [] := by simp [sortL]
    rw [e0]
    exact ⟨rfl, own, Below.refl _ _⟩
  · have hv' : v = .slice (some ⟨g, 0, none⟩) xs.length cap := hv
    subst hv'
    have ht' : cur.toList.take xs.length = xs.map (Value.int .i64) := by rw [← Nat.mul_one xs.length]; exact ht
    have hgl := (own.head.lt g rfl).2
    refine (Try.slices_Sort_int g 0 cap xs w (holds_of_blockI hg ht') hgl (by omega)).mono ?_
    rintro ee w' ⟨rfl, n, os, rfl⟩
    have hgr := grownBy_sortedI (w := w) (g := g) (n := n) (os := os) (sortL xs).toArray
    have ho := ownsRow_sortedI (w := w) (base := B) (n := n) (os := os) (ss := xs) (ts := sortL xs) (sortL_len xs) hb hg hc hm hz
    refine ⟨rfl, own.turn (r' := intRowOf e (.slice (some ⟨g, 0, none⟩) xs.length cap) (sortL xs)) ?_ hgr (.inl rfl), below_of_grown own.head hgr hB⟩
    show World.ownsRow _ B e 1 (.slice (some ⟨g, 0, none⟩) xs.length cap) (sortL xs).length ((sortL xs).map (Value.int .i64))
    rw [sortL_len]
    exact ho

/-- a configuration with one point in the place of another one -/
def movL (a : List Int) (p r : Int) : List Int := sortL (a.set (ixOf a p).toNat r)
theorem movL_len (a : List Int) (p r : Int) : (movL a p r).length = a.length := by rw [movL, sortL_len, List.length_set]

set_option maxHeartbeats 800000 in
set_option maxRecDepth 100000 in
theorem moved_any {v : Value} {a : List Int} {p r : Int} {w0 w : World} [Ext w0 w] (ha : IsInts w0 v a) (hp : p ∈ a) (_hr : I64 r) :
    Calls Try.prog 44 #[v, .int .i64 p, .int .i64 r] w fun e w' => ∃ d m, e = .returned (.slice d a.length m) ∧ Own w' w.heap.size [intRowOf 3 (.slice d a.length m) (movL a p r)] ∧ Ext w w' := by
  have ha' := ha
  obtain ⟨da, ma, rfl, la⟩ := ha.form
  obtain ⟨h0, h1, h2⟩ := ixOf_in hp
  have hpos : 0 < a.length := by omega
  go_enter Try.func44, Try.ntmps44
  go_wp2_with fail
  with_reducible refine (cloneInts_any (w0 := w0) ha').mono ?_
  rintro e w1 ⟨d, m, rfl, own1, e1⟩
  obtain ⟨g, rfl⟩ := own1.at (j := 0) hpos
  have hai : ∀ x ∈ a, I64 x := fun x hx => by
    obtain ⟨k, hk, rfl⟩ := mem_iff_nth.1 hx
    exact ha'.i64 hk
  have hi1 : IsInts w1 (.slice (some ⟨g, 0, none⟩) a.length m) a := own1.reads la hai
  go_wp2_with fail
  with_reducible refine (sIndex_any (w0 := w1) (w := w1) (x := p) hi1).mono ?_
  rintro e w2 ⟨rfl, rfl⟩
  obtain ⟨q, hq⟩ : ∃ q : Nat, ixOf a p = q := ⟨(ixOf a p).toNat, by omega⟩
  rw [hq] at h0 h1 ⊢
  have hqa : q < a.length := by omega
  have hmov := hid (show movL a p r = sortL (a.set q r) by rw [movL, hq, Int.toNat_natCast])
  replace hq := hid hq
  have c1 : w1.cell? ⟨g, q, none⟩ = some (.int .i64 (nth a q)) := by
    rw [own1.cellAt (w' := w1) hqa]; simp [nth, hqa]
  have f1 := own1.frozenAt q
  have own2 := own1.set q (.int .i64 r)
  have hgB := own1.lt.1
  have b2 : Below w.heap.size w (w1.setCell ⟨g, q, none⟩ (.int .i64 r)) := e1.below.setCell hgB _
  rw [← List.map_set] at own2
  have eX : (⟨3, 1, .slice (some ⟨g, 0, none⟩) a.length m, a.length, (a.set q r).map (Value.int .i64)⟩ : Row) = intRowOf 3 (.slice (some ⟨g, 0, none⟩) a.length m) (a.set q r) := by unfold intRowOf; rw [List.length_set]
  rw [eX] at own2
  replace eX := hid eX
  have hB2 := b2.size
  go_wp2_with fail
  with_reducible refine (sort_any own2 hB2 (by rw [List.length_set]; exact la)).mono ?_
  rintro e w3 ⟨rfl, own3, b3⟩
  go_wp2_with fail
  go_ret
  exact ⟨_, _, rfl, by rw [hmov.out]; exact own3, ⟨b2.trans b3⟩⟩
end Go.Proofs.Ytohjbabjkjcddaa
