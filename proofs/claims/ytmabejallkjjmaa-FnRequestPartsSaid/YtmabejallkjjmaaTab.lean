/- A table of one's own: rows of ints in a slice of slices, read, written, appended to. -/
import Derived.Test.YtmabejallkjjmaaGrA
namespace Go.Proofs.Ytmabejallkjjmaa
open Go.RowKit

theorem Own.tnils {w : World} {B e : Nat} {R : List Row} (h : Own w B R) : ∀ n, Own w B (List.zipWith (intRowOf e) (List.replicate n (.slice none 0 0)) (List.replicate n []) ++ R)
  | 0 => by simpa using h
  | n + 1 => by
    rw [List.replicate_succ, List.replicate_succ, List.zipWith_cons_cons, List.cons_append]
    exact (h.tnils n).cons_nil _ _
theorem zipWith_tset {α β γ : Type} (f : α → β → γ) : ∀ (l : List α) (m : List β) (j : Nat) (a : α) (b : β), (List.zipWith f l m).set j (f a b) = List.zipWith f (l.set j a) (m.set j b)
  | [], m, j, a, b => by simp
  | x :: l, [], j, a, b => by cases j <;> simp
  | x :: l, y :: m, 0, a, b => by simp
  | x :: l, y :: m, j + 1, a, b => by
    simp only [List.zipWith_cons_cons, List.set_cons_succ]
    rw [zipWith_tset f l m j a b]
/-- a new row is laid into a list of rows -/
theorem tb_lay {w : World} {B e1 e2 g c n : Nat} {vs : List Value} {M : List (List Int)} {R : List Row} {rv : Value} {xs : List Int} (h : Own w B (intRowOf e2 rv xs :: (rowsOf e1 e2 (.slice (some ⟨g, 0, none⟩) n c) vs M ++ R))) (hn : vs.length = n) (hm : M.length = n) {i : Nat} (hi : i < n) :
    Own (w.setCell ⟨g, i, none⟩ rv) B (rowsOf e1 e2 (.slice (some ⟨g, 0, none⟩) n c) (vs.set i rv) (M.set i xs) ++ R) := by
  subst hn
  have h1 : Own w B (⟨e1, 1, .slice (some ⟨g, 0, none⟩) vs.length c, vs.length, vs⟩ :: (intRowOf e2 rv xs :: (List.zipWith (intRowOf e2) vs M ++ R))) := h.perm (List.Perm.swap _ _ _)
  have h2 := h1.set i rv
  have hl : i < (List.zipWith (intRowOf e2) vs M).length := by rw [List.length_zipWith]; omega
  have e : rowsOf e1 e2 (.slice (some ⟨g, 0, none⟩) vs.length c) (vs.set i rv) (M.set i xs) = (⟨e1, 1, .slice (some ⟨g, 0, none⟩) vs.length c, vs.length, vs.set i rv⟩ : Row) :: (List.zipWith (intRowOf e2) vs M).set i (intRowOf e2 rv xs) := by
    rw [zipWith_tset]
    unfold rowsOf valRowOf
    rw [List.length_set]
  rw [e, List.cons_append]
  have p := perm_set (List.zipWith (intRowOf e2) vs M) i (intRowOf e2 rv xs) hl
  have s : List.Sublist ((⟨e1, 1, .slice (some ⟨g, 0, none⟩) vs.length c, vs.length, vs.set i rv⟩ : Row) :: (intRowOf e2 rv xs :: ((List.zipWith (intRowOf e2) vs M).eraseIdx i ++ R))) ((⟨e1, 1, .slice (some ⟨g, 0, none⟩) vs.length c, vs.length, vs.set i rv⟩ : Row) :: (intRowOf e2 rv xs :: (List.zipWith (intRowOf e2) vs M ++ R))) :=
    ((List.Sublist.append_right (List.eraseIdx_sublist _ _) R).cons_cons _).cons_cons _
  have h3 := h2.sub s
  exact h3.perm ((p.append_right R).cons _)
/-- the table's rows, and what lies beside them -/
abbrev tbRows (g n : Nat) (vs : List Value) (T : List (List Int)) : List Row := rowsOf 27 3 (.slice (some ⟨g, 0, none⟩) n n) vs T ++ []
theorem tb_head {w : World} {B g n : Nat} {vs : List Value} {T : List (List Int)} (h : Own w B (tbRows g n vs T)) (hv : vs.length = n) : Own w B (⟨27, 1, .slice (some ⟨g, 0, none⟩) n n, n, vs⟩ :: (List.zipWith (intRowOf 3) vs T ++ [])) := by
  have h' := h
  unfold tbRows rowsOf valRowOf at h'
  rw [hv] at h'
  exact h'
theorem tb_cell {w : World} {B g n : Nat} {vs : List Value} {T : List (List Int)} (h : Own w B (tbRows g n vs T)) (hv : vs.length = n) {j : Nat} {u : Value} (hu : vs[j]? = some u) :
    w.cell? ⟨g, j, none⟩ = some u ∧ w.frozen? ⟨g, j, none⟩ = false := by
  have hhead := tb_head h hv
  have hj : j < n := by rw [← hv]; exact (List.getElem?_eq_some_iff.1 hu).1
  refine ⟨?_, hhead.frozenAt j⟩
  rw [hhead.cellAt (w' := w) hj, List.getD_eq_getElem?_getD, hu]; rfl
theorem tb_pick {w : World} {B g n : Nat} {vs : List Value} {T : List (List Int)} (h : Own w B (tbRows g n vs T)) (ht : T.length = n) {j : Nat} (hj : j < n) {u : Value} (hu : vs[j]? = some u) :
    Own w B (intRowOf 3 u (row T j) :: (tbRows g n vs T).eraseIdx (j + 1)) := by
  have hr : T[j]? = some (row T j) := by simp [row, show j < T.length by omega]
  exact h.pick (h.rowAt hr hu)
theorem tb_blk {w : World} {B g n : Nat} {vs : List Value} {T : List (List Int)} (h : Own w B (tbRows g n vs T)) (hv : vs.length = n) (ht : T.length = n) {j : Nat} (hj : j < n) (h0 : 0 < (row T j).length) :
    ∃ gk mk, vs[j]? = some (.slice (some ⟨gk, 0, none⟩) (row T j).length mk) ∧ B ≤ gk := by
  obtain ⟨u, hu⟩ : ∃ u, vs[j]? = some u := ⟨_, List.getElem?_eq_getElem (by omega)⟩
  have hpick := tb_pick h ht hj hu
  obtain ⟨d, m, hd⟩ := hpick.form
  have hd' : u = .slice d (row T j).length m := hd
  subst hd'
  obtain ⟨gk, rfl⟩ := hpick.at h0
  exact ⟨gk, m, hu, hpick.lt.1⟩
theorem tb_at {w : World} {B g n gk l mk : Nat} {vs : List Value} {T : List (List Int)} (h : Own w B (tbRows g n vs T)) (ht : T.length = n) {j : Nat} (hj : j < n) (hu : vs[j]? = some (.slice (some ⟨gk, 0, none⟩) l mk)) (hl : (row T j).length = l) {q : Nat} (hq : q < l) :
    w.cell? ⟨gk, q, none⟩ = some (.int .i64 (nth (row T j) q)) ∧ w.frozen? ⟨gk, q, none⟩ = false := by
  subst hl
  have hpick := tb_pick h ht hj hu
  refine ⟨?_, hpick.frozenAt q⟩
  have := hpick.cellAt (w' := w) hq
  rw [this]
  simp [nth, hq]
theorem tb_put {w : World} {B g n gk l mk : Nat} {vs : List Value} {T : List (List Int)} {L : Row} (h : Own w B (L :: tbRows g n vs T)) (hv : vs.length = n) (ht : T.length = n) {j : Nat} (hj : j < n) (hu : vs[j]? = some (.slice (some ⟨gk, 0, none⟩) l mk)) (hl : (row T j).length = l) (q : Nat) (u : Value) {xs : List Int} (hx : ((row T j).map (Value.int .i64)).set q u = xs.map (Value.int .i64)) (hxl : xs.length = l) :
    Own (w.setCell ⟨gk, q, none⟩ u) B (L :: tbRows g n vs (T.set j xs)) := by
  subst hl
  have h2 : Own w B (rowsOf 27 3 (.slice (some ⟨g, 0, none⟩) n n) vs T ++ [L]) := by
    have e0 : tbRows g n vs T = rowsOf 27 3 (.slice (some ⟨g, 0, none⟩) n n) vs T := List.append_nil _
    rw [e0] at h
    exact Own.swap (R := [L]) h
  have hr : T[j]? = some (row T j) := by simp [row, show j < T.length by omega]
  have hpick := (h2.pick (h2.rowAt hr hu)).set q u
  rw [hx] at hpick
  have e : (⟨3, 1, .slice (some ⟨gk, 0, none⟩) (row T j).length mk, (row T j).length, xs.map (Value.int .i64)⟩ : Row) = intRowOf 3 (.slice (some ⟨gk, 0, none⟩) (row T j).length mk) xs := by
    unfold intRowOf
    rw [hxl]
  rw [e] at hpick
  have h' := hpick.put (by unfold rowsOf; simp; omega)
  rw [rowsOf_set (by omega) hu] at h'
  have h3 := Own.swap h'
  have h4 := h3.nilr
  rw [List.append_assoc] at h4
  exact h4


/-- behind an append to a row the new slice is stored -/
theorem tb_grow {w : World} {B g n : Nat} {vs : List Value} {T : List (List Int)} {v' : Value} {xs : List Int} {i : Nat} (h : Own w B (intRowOf 3 v' xs :: (tbRows g n vs T).eraseIdx (i + 1))) (hv : vs.length = n) (ht : T.length = n) (hi : i < n) :
    w.cell? ⟨g, i, none⟩ = some (vs.getD i undef) ∧ w.frozen? ⟨g, i, none⟩ = false ∧ Own (w.setCell ⟨g, i, none⟩ v') B (tbRows g n (vs.set i v') (T.set i xs)) := by
  subst hv
  have e0 : (tbRows g vs.length vs T).eraseIdx (i + 1) = (⟨27, 1, .slice (some ⟨g, 0, none⟩) vs.length vs.length, vs.length, vs⟩ : Row) :: (List.zipWith (intRowOf 3) vs T).eraseIdx i := by
    unfold tbRows rowsOf valRowOf
    rw [List.append_nil, List.eraseIdx_cons_succ]
  rw [e0] at h
  have h1 : Own w B (⟨27, 1, .slice (some ⟨g, 0, none⟩) vs.length vs.length, vs.length, vs⟩ :: (intRowOf 3 v' xs :: (List.zipWith (intRowOf 3) vs T).eraseIdx i)) := h.perm (List.Perm.swap _ _ _)
  have hl : i < (List.zipWith (intRowOf 3) vs T).length := by rw [List.length_zipWith]; omega
  refine ⟨h1.cellAt hi, h1.frozenAt i, ?_⟩
  have h2 := h1.set i v'
  have e : tbRows g vs.length (vs.set i v') (T.set i xs) = (⟨27, 1, .slice (some ⟨g, 0, none⟩) vs.length vs.length, vs.length, vs.set i v'⟩ : Row) :: (List.zipWith (intRowOf 3) vs T).set i (intRowOf 3 v' xs) := by
    rw [zipWith_tset]
    unfold tbRows rowsOf valRowOf
    rw [List.length_set, List.append_nil]
  rw [e]
  exact h2.perm ((perm_set (List.zipWith (intRowOf 3) vs T) i (intRowOf 3 v' xs) hl).cons _)
/-- a table with nothing in it but a last row -/
theorem tb_start {w : World} {B g m n l : Nat} (h : Own w B [⟨27, 1, .slice (some ⟨g, 0, none⟩) n n, n, List.replicate n (.slice none 0 0)⟩]) {u w' : World} {v : Value} {xs : List Int} (hn : Own w' u.heap.size [intRowOf 3 v xs]) (e : Ext w u) (e' : Ext u w') (hB : B ≤ w.heap.size) (hl : l < n) (hm : m = n) :
    Own (w'.setCell ⟨g, l, none⟩ v) B (tbRows g n ((List.replicate n (.slice none 0 0)).set l v) ((List.replicate m []).set l xs)) := by
  subst hm
  have q1 := (Own.tnils (e := 3) h m)
  have q3 := (Own.swap q1).nilr
  have e1 : tbRows g m (List.replicate m (.slice none 0 0)) (List.replicate m []) = (⟨27, 1, .slice (some ⟨g, 0, none⟩) m m, m, List.replicate m (.slice none 0 0)⟩ : Row) :: (List.zipWith (intRowOf 3) (List.replicate m (.slice none 0 0)) (List.replicate m []) ++ []) := by
    unfold tbRows rowsOf valRowOf
    rw [List.length_replicate]
    rfl
  have q2 : Own w B (tbRows g m (List.replicate m (.slice none 0 0)) (List.replicate m [])) := by rw [e1]; exact q3
  have q5 := Own.add hn q2 e' hB
  have q6 := tb_lay (R := []) (M := List.replicate m []) (xs := xs) (rv := v) (i := l) (g := g) (c := m) (n := m) (vs := List.replicate m (.slice none 0 0)) q5 (by simp) (by simp) hl
  exact q6
end Go.Proofs.Ytmabejallkjjmaa
