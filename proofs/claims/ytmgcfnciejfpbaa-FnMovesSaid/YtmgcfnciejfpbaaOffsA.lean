/- All offsets, as the reference finds them. -/
import Derived.Test.YtmgcfnciejfpbaaOffsW
import Derived.Test.YtmgcfnciejfpbaaMade
import Derived.Deep.RegionHeld3
namespace Go.Proofs.Ytmgcfnciejfpbaa
open Go.RowKit

theorem Own.pull {w : World} {B : Nat} {A L : List Row} {r : Row} (h : Own w B (A ++ (r :: L))) : Own w B (r :: (A ++ L)) := h.perm List.perm_middle.symm
theorem Own.push {w : World} {B : Nat} {A L : List Row} {r : Row} (h : Own w B (r :: (A ++ L))) : Own w B (A ++ (r :: L)) := h.perm List.perm_middle
theorem Own.cellIn {w : World} {B e z g n c : Nat} {cs : List Value} {R : List Row} (h : Own w B R) (hr : (⟨e, z, .slice (some ⟨g, 0, none⟩) n c, n, cs⟩ : Row) ∈ R) {j : Nat} (hj : j < n * z) : w.cell? ⟨g, j, none⟩ = some (cs.getD j undef) := by
  have ho := h.1 _ hr
  have h1 := ho.cellAt j hj
  have h2 : cs.length = n * z := ho.1
  rw [h1]
  have h3 : j < cs.length := by omega
  simp [h3]
theorem Own.frozenIn {w : World} {B e z g n c : Nat} {cs : List Value} {R : List Row} (h : Own w B R) (hr : (⟨e, z, .slice (some ⟨g, 0, none⟩) n c, n, cs⟩ : Row) ∈ R) (j : Nat) : w.frozen? ⟨g, j, none⟩ = false := (h.1 _ hr).frozenAt j
theorem Own.setIn {w : World} {B e z g n c : Nat} {cs : List Value} {A L : List Row} (h : Own w B (A ++ (⟨e, z, .slice (some ⟨g, 0, none⟩) n c, n, cs⟩ :: L))) (j : Nat) (u : Value) :
    Own (w.setCell ⟨g, j, none⟩ u) B (A ++ (⟨e, z, .slice (some ⟨g, 0, none⟩) n c, n, cs.set j u⟩ :: L)) := by
  have h' := h.pull
  exact Own.push (h'.turn (h'.head.stored j u).1 (h'.head.stored j u).2 (.inl rfl))
/-- rows: their list comes to the front -/
theorem rows_out {w : World} {B e1 e2 : Nat} {v : Value} {vs : List Value} {M : List (List Int)} {W : Row} {A R : List Row} (h : Own w B (W :: (A ++ (rowsOf e1 e2 v vs M ++ R)))) :
    Own w B (⟨e1, 1, v, vs.length, vs⟩ :: (W :: (A ++ (List.zipWith (intRowOf e2) vs M ++ R)))) :=
  Own.pull (A := W :: A) (L := List.zipWith (intRowOf e2) vs M ++ R) h
/-- and goes back with a new row -/
theorem rows_in {w : World} {B e1 e2 : Nat} {v rv : Value} {vs : List Value} {M : List (List Int)} {xs : List Int} {A R : List Row} (h : Own w B (⟨e1, 1, v, vs.length + 1, vs ++ [rv]⟩ :: (intRowOf e2 rv xs :: (A ++ (List.zipWith (intRowOf e2) vs M ++ R))))) (hl : vs.length = M.length) :
    Own w B (A ++ (rowsOf e1 e2 v (vs ++ [rv]) (M ++ [xs]) ++ R)) := by
  have e : rowsOf e1 e2 v (vs ++ [rv]) (M ++ [xs]) ++ R = (⟨e1, 1, v, vs.length + 1, vs ++ [rv]⟩ : Row) :: (List.zipWith (intRowOf e2) vs M ++ (intRowOf e2 rv xs :: R)) := by
    unfold rowsOf valRowOf
    rw [List.zipWith_append hl, List.length_append]
    simp
  rw [e]
  refine Own.push (h.perm ?_)
  refine List.Perm.cons _ ?_
  have p := List.perm_middle (a := intRowOf e2 rv xs) (l₁ := A ++ List.zipWith (intRowOf e2) vs M) (l₂ := R)
  simpa only [List.append_assoc] using p

theorem normL_row {M S : List (List Int)} (hp : probB M S = true) {s : Nat} (hs : s < M.length) : normL (row M s) = row M s := by
  have h0 : leastL (row M s) = 0 := optL_nil hp hs
  refine eq_of_nth (normL_length _) fun j hj => ?_
  rw [normL_length] at hj
  rw [nth_normL hj, h0]
  omega
theorem offOk_read {M S : List (List Int)} (hp : probB M S = true) {l : List (List Int)} (h : offOk M l) (hl : l.length ≤ 1000) : ShortRows l.length ∧ (∀ r ∈ l, Short r.length) ∧ ∀ r ∈ l, ∀ x ∈ r, I64 x := by
  have hn := probB_len hp
  refine ⟨by unfold ShortRows; omega, fun r hr => ?_, fun r hr => wOk_i64 (h r hr) (by omega)⟩
  have := (h r hr).1
  unfold Short
  omega

theorem rowStp_in {M S l : List (List Int)} {n r : Nat} (hl : l.length ≤ 400) (hr : r ≤ 4) : ∀ y ∈ rowStp M S l n r, 0 ≤ y ∧ y ≤ 1000 := by
  intro y hy
  obtain ⟨q, hq, rfl⟩ := List.mem_map.1 hy
  have hq' := List.mem_range.1 hq
  have h1 := (rowLst_len (M := M) (S := S) l n q).2
  rcases ixL_in (p := fun o => decide (o = normL (nextL M S (row l n) q))) (rowLst M S l n q) 0 with h | h
  · have : ixAt M S l n q = -1 := h
    rw [if_pos (by omega)]
    omega
  · have h2 : (0 : Int) ≤ ixAt M S l n q ∧ ixAt M S l n q < 0 + ((rowLst M S l n q).length : Int) := h
    rw [if_neg (by omega)]
    omega
theorem rowGrw_in {M S l : List (List Int)} (hp : probB M S = true) {n r : Nat} (hl : offOk M l) (hn : n < l.length) (hr : r ≤ S.length) : ∀ y ∈ rowGrw M S l n r, 0 ≤ y ∧ y ≤ 1000 := by
  intro y hy
  obtain ⟨q, hq, rfl⟩ := List.mem_map.1 hy
  have hq' := List.mem_range.1 hq
  have := norm_ok hp (hl _ (row_mem hn)) (r := q) (by omega)
  omega
theorem small_read {l : List (List Int)} (hl : l.length ≤ 1000) (h : ∀ x ∈ l, x.length ≤ 4 ∧ ∀ y ∈ x, 0 ≤ y ∧ y ≤ 1000) : ShortRows l.length ∧ (∀ r ∈ l, Short r.length) ∧ ∀ r ∈ l, ∀ x ∈ r, I64 x := by
  refine ⟨by unfold ShortRows; omega, fun r hr => ?_, fun r hr x hx => ?_⟩
  · have := (h r hr).1; unfold Short; omega
  · have := (h r hr).2 x hx; unfold I64; omega

/-- what the reference's answer reads as -/
def allPost (M S : List (List Int)) (s : Nat) (e : Ending) (w' : World) : Prop :=
  (offEnd M S s = none ∧ ∃ d1 n1 m1 d2 n2 m2 d3 n3 m3, e = .returned (.agg #[.slice d1 n1 m1, .slice d2 n2 m2, .slice d3 n3 m3, .bool true])) ∨
  ∃ n, offEnd M S s = some n ∧ ∃ ld lm xd xm gd gm, e = .returned (.agg #[.slice ld (offLst M S s n).length lm, .slice xd (offStp M S s n).length xm, .slice gd (offGrw M S s n).length gm, .bool false]) ∧
    IsRows w' (.slice ld (offLst M S s n).length lm) (offLst M S s n) ∧ IsRows w' (.slice xd (offStp M S s n).length xm) (offStp M S s n) ∧ IsRows w' (.slice gd (offGrw M S s n).length gm) (offGrw M S s n)

end Go.Proofs.Ytmgcfnciejfpbaa
