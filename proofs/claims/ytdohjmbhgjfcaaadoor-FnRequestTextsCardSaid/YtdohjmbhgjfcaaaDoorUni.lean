/- Metrics that draws make: uniform ones and lines. -/
import Derived.Test.YtdohjmbhgjfcaaaDoorCur
import Derived.Test.YtdohjmbhgjfcaaaDoorLawB
import Derived.Test.YtdohjmbhgjfcaaaDoorMark
import Derived.Test.YtdohjmbhgjfcaaaDoorSpecA
namespace Go.Proofs.YtdohjmbhgjfcaaaDoor
open Go.RowKit

/-- rows: their list comes to the front -/
theorem rw_out {w : World} {B e1 e2 : Nat} {v : Value} {vs : List Value} {M : List (List Int)} {W : Row} {A R : List Row} (h : Own w B (W :: (A ++ (rowsOf e1 e2 v vs M ++ R)))) :
    Own w B (⟨e1, 1, v, vs.length, vs⟩ :: (W :: (A ++ (List.zipWith (intRowOf e2) vs M ++ R)))) :=
  ow_pull (A := W :: A) (L := List.zipWith (intRowOf e2) vs M ++ R) h
/-- and goes back with a new row -/
theorem rw_in {w : World} {B e1 e2 : Nat} {v rv : Value} {vs : List Value} {M : List (List Int)} {xs : List Int} {A R : List Row} (h : Own w B (⟨e1, 1, v, vs.length + 1, vs ++ [rv]⟩ :: (intRowOf e2 rv xs :: (A ++ (List.zipWith (intRowOf e2) vs M ++ R))))) (hl : vs.length = M.length) :
    Own w B (A ++ (rowsOf e1 e2 v (vs ++ [rv]) (M ++ [xs]) ++ R)) := by
  have e : rowsOf e1 e2 v (vs ++ [rv]) (M ++ [xs]) ++ R = (⟨e1, 1, v, vs.length + 1, vs ++ [rv]⟩ : Row) :: (List.zipWith (intRowOf e2) vs M ++ (intRowOf e2 rv xs :: R)) := by
    unfold rowsOf valRowOf
    rw [List.zipWith_append hl, List.length_append]
    simp
  rw [e]
  refine ow_push (h.perm ?_)
  refine List.Perm.cons _ ?_
  have p := List.perm_middle (a := intRowOf e2 rv xs) (l₁ := A ++ List.zipWith (intRowOf e2) vs M) (l₂ := R)
  simpa only [List.append_assoc] using p
theorem ow_front {w : World} {B : Nat} {A T R : List Row} (h : Own w B (A ++ (T ++ R))) : Own w B (T ++ (A ++ R)) := by
  refine h.perm ?_
  rw [← List.append_assoc, ← List.append_assoc]
  exact List.perm_append_comm.append_right R
/-- a table at the front: its cells -/
theorem rw_cell {w : World} {B e1 e2 g n c : Nat} {vs : List Value} {M : List (List Int)} {R : List Row} (h : Own w B (rowsOf e1 e2 (.slice (some ⟨g, 0, none⟩) n c) vs M ++ R)) (hn : vs.length = n) {j : Nat} {u : Value} (hu : vs[j]? = some u) :
    w.cell? ⟨g, j, none⟩ = some u ∧ w.frozen? ⟨g, j, none⟩ = false := by
  subst hn
  have h1 : Own w B (⟨e1, 1, .slice (some ⟨g, 0, none⟩) vs.length c, vs.length, vs⟩ :: (List.zipWith (intRowOf e2) vs M ++ R)) := h
  have hj : j < vs.length := (List.getElem?_eq_some_iff.1 hu).1
  refine ⟨?_, h1.frozenAt j⟩
  rw [h1.cellAt (w' := w) hj, List.getD_eq_getElem?_getD, hu]; rfl
/-- a row of it -/
theorem rw_row {w : World} {B e1 e2 : Nat} {v : Value} {vs : List Value} {M : List (List Int)} {R : List Row} (h : Own w B (rowsOf e1 e2 v vs M ++ R)) {j : Nat} (hj : j < M.length) {u : Value} (hu : vs[j]? = some u) :
    Own w B (intRowOf e2 u (row M j) :: (rowsOf e1 e2 v vs M ++ R).eraseIdx (j + 1)) := by
  have hr : M[j]? = some (row M j) := by simp [row, hj]
  exact h.pick (h.rowAt hr hu)
theorem rw_form {w : World} {B e1 e2 : Nat} {v : Value} {vs : List Value} {M : List (List Int)} {R : List Row} (h : Own w B (rowsOf e1 e2 v vs M ++ R)) (hl : vs.length = M.length) {j : Nat} (hj : j < M.length) (h0 : 0 < (row M j).length) :
    ∃ g m, vs[j]? = some (.slice (some ⟨g, 0, none⟩) (row M j).length m) ∧ B ≤ g := by
  obtain ⟨u, hu⟩ : ∃ u, vs[j]? = some u := ⟨_, List.getElem?_eq_getElem (by omega)⟩
  have hpick := rw_row h hj hu
  obtain ⟨d, m, hd⟩ := hpick.form
  have hd' : u = .slice d (row M j).length m := hd
  subst hd'
  obtain ⟨g, rfl⟩ := hpick.at h0
  exact ⟨g, m, hu, hpick.lt.1⟩
theorem rw_at {w : World} {B e1 e2 g l m : Nat} {v : Value} {vs : List Value} {M : List (List Int)} {R : List Row} (h : Own w B (rowsOf e1 e2 v vs M ++ R)) {j : Nat} (hj : j < M.length) (hu : vs[j]? = some (.slice (some ⟨g, 0, none⟩) l m)) (hl : (row M j).length = l) {q : Nat} (hq : q < l) :
    w.cell? ⟨g, q, none⟩ = some (.int .i64 (nth (row M j) q)) ∧ w.frozen? ⟨g, q, none⟩ = false := by
  subst hl
  have hpick := rw_row h hj hu
  refine ⟨?_, hpick.frozenAt q⟩
  rw [hpick.cellAt (w' := w) hq]
  simp [nth, hq]
/-- a cell of a row of it is written -/
theorem rw_put {w : World} {B e1 e2 g l m : Nat} {v : Value} {vs : List Value} {M : List (List Int)} {R : List Row} (h : Own w B (rowsOf e1 e2 v vs M ++ R)) (hv : vs.length = M.length) {j : Nat} (hj : j < M.length) (hu : vs[j]? = some (.slice (some ⟨g, 0, none⟩) l m)) (hl : (row M j).length = l) (q : Nat) (x : Int) :
    Own (w.setCell ⟨g, q, none⟩ (.int .i64 x)) B (rowsOf e1 e2 v vs (M.set j ((row M j).set q x)) ++ R) := by
  subst hl
  have hpick := (rw_row h hj hu).set q (.int .i64 x)
  rw [← List.map_set] at hpick
  have e : (⟨e2, 1, .slice (some ⟨g, 0, none⟩) (row M j).length m, (row M j).length, ((row M j).set q x).map (Value.int .i64)⟩ : Row) = intRowOf e2 (.slice (some ⟨g, 0, none⟩) (row M j).length m) ((row M j).set q x) := by
    unfold intRowOf
    rw [List.length_set]
  rw [e] at hpick
  have h' := hpick.put (by unfold rowsOf; simp; omega)
  rw [rowsOf_set (by omega) hu] at h'
  exact h'

theorem ow_ints {w : World} {B e : Nat} {v : Value} {xs : List Int} {R : List Row} (h : Own w B (intRowOf e v xs :: R)) : ∃ d m, v = .slice d xs.length m := h.form
theorem ow_snoc {w : World} {B e : Nat} {v : Value} {xs : List Int} {x : Int} {n : Nat} {R : List Row} (h : Own w B (⟨e, 1, v, n + 1, xs.map (Value.int .i64) ++ [.int .i64 x]⟩ :: R)) (hn : n = xs.length) : Own w B (intRowOf e v (xs ++ [x]) :: R) := by
  subst hn
  unfold intRowOf
  rw [List.length_append, List.map_append]
  exact h
def uniRow (f : Nat → Nat → Int) (x m : Nat) : List Int := (List.range m).map (f x)
def uniTab (f : Nat → Nat → Int) (m n : Nat) : List (List Int) := (List.range n).map fun x => uniRow f x m
theorem uniRow_succ (f : Nat → Nat → Int) (x m : Nat) : uniRow f x (m + 1) = uniRow f x m ++ [f x m] := by simp [uniRow, List.range_succ]
theorem uniTab_succ (f : Nat → Nat → Int) (m n : Nat) : uniTab f m (n + 1) = uniTab f m n ++ [uniRow f n m] := by simp [uniTab, List.range_succ]
theorem uniRow_length (f : Nat → Nat → Int) (x m : Nat) : (uniRow f x m).length = m := by simp [uniRow]
theorem uniTab_length (f : Nat → Nat → Int) (m n : Nat) : (uniTab f m n).length = n := by simp [uniTab]
theorem uniTab_row {f : Nat → Nat → Int} {m n : Nat} {r : List Int} (h : r ∈ uniTab f m n) : ∃ x, x < n ∧ r = uniRow f x m := by
  obtain ⟨x, hx, rfl⟩ := List.mem_map.1 h
  exact ⟨x, List.mem_range.1 hx, rfl⟩
abbrev boxRow (e z b : Nat) (cs : List Value) : Row := ⟨e, z, .slice (some ⟨b, 0, none⟩) 1 1, 1, cs⟩

end Go.Proofs.YtdohjmbhgjfcaaaDoor
