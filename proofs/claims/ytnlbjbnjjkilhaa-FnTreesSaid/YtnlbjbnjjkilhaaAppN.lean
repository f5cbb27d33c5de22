/- Appends of a slice of slices to itself; rows laid into a list of rows. -/
import Derived.Test.YtnlbjbnjjkilhaaFlatW
import Derived.Test.YtnlbjbnjjkilhaaUni
namespace Go.Proofs.Ytnlbjbnjjkilhaa
open Go.RowKit

theorem zipWith_unset {α β γ : Type} (f : α → β → γ) : ∀ (l : List α) (m : List β) (j : Nat) (a : α) (b : β), (List.zipWith f l m).set j (f a b) = List.zipWith f (l.set j a) (m.set j b)
  | [], m, j, a, b => by simp
  | x :: l, [], j, a, b => by cases j <;> simp
  | x :: l, y :: m, 0, a, b => by simp
  | x :: l, y :: m, j + 1, a, b => by
    simp only [List.zipWith_cons_cons, List.set_cons_succ]
    rw [zipWith_unset f l m j a b]
/-- the first cells of an old slice stay what they are while it is appended to again and again -/
def Keeps (w : World) (g : Nat) (ws : List Value) (v : Value) (cs : List Value) : Prop := (∀ (j : Nat) (u : Value), ws[j]? = some u → w.cell? ⟨g, j, none⟩ = some u) ∧ g < w.heap.size ∧ (v.ownBlock = some g → ∀ (j : Nat) (u : Value), ws[j]? = some u → cs[j]? = some u)
theorem Keeps.next {w w' : World} {B e m g : Nat} {ws cs news : List Value} {v v' : Value} {R : List Row} (h : Keeps w g ws v cs) (own : Own w' B (⟨e, 1, v', m, cs ++ news⟩ :: R)) (hg : w.grownBy w' v.ownBlock) (hd : v'.ownBlock = v.ownBlock ∨ (Ext w w' ∧ ∀ k, v'.ownBlock = some k → w.heap.size ≤ k)) : Keeps w' g ws v' (cs ++ news) := by
  obtain ⟨h1, h2, h3⟩ := h
  have hpre : v.ownBlock = some g → ∀ (j : Nat) (u : Value), ws[j]? = some u → (cs ++ news)[j]? = some u := by
    intro hb j u hu
    have h4 := h3 hb j u hu
    have hj : j < cs.length := (List.getElem?_eq_some_iff.1 h4).1
    rw [List.getElem?_append_left hj]
    exact h4
  refine ⟨fun j u hu => ?_, Nat.lt_of_lt_of_le h2 hg.size, fun hb' => ?_⟩
  · by_cases hb : v.ownBlock = some g
    · rcases hd with hd | hd
      · have h5 := own.head.cells (hd.trans hb) j u (hpre hb j u hu)
        have e1 : (⟨g, 0, none⟩ : Addr).add j = ⟨g, j, none⟩ := by
          unfold Addr.add; split <;> simp_all
        rwa [e1] at h5
      · exact hd.1.cell (h1 j u hu)
    · exact hg.cell (h1 j u hu) (fun e => hb e.symm)
  · rcases hd with hd | hd
    · exact hpre (hd.symm.trans hb')
    · have := hd.2 g hb'
      omega
/-- behind an append to a row the new slice is stored -/
theorem rw_grow {w : World} {B e1 e2 g n c : Nat} {vs : List Value} {M : List (List Int)} {v' : Value} {xs : List Int} {i : Nat} {R : List Row} (h : Own w B (intRowOf e2 v' xs :: (rowsOf e1 e2 (.slice (some ⟨g, 0, none⟩) n c) vs M ++ R).eraseIdx (i + 1))) (hv : vs.length = n) (ht : M.length = n) (hi : i < n) :
    w.cell? ⟨g, i, none⟩ = some (vs.getD i undef) ∧ w.frozen? ⟨g, i, none⟩ = false ∧ Own (w.setCell ⟨g, i, none⟩ v') B (rowsOf e1 e2 (.slice (some ⟨g, 0, none⟩) n c) (vs.set i v') (M.set i xs) ++ R) ∧ (∀ r ∈ R, w.ownsRow B r.e r.z r.v r.n r.cs) ∧ B ≤ g := by
  subst hv
  have hl : i < (List.zipWith (intRowOf e2) vs M).length := by rw [List.length_zipWith]; omega
  have e0 : (rowsOf e1 e2 (.slice (some ⟨g, 0, none⟩) vs.length c) vs M ++ R).eraseIdx (i + 1) = (⟨e1, 1, .slice (some ⟨g, 0, none⟩) vs.length c, vs.length, vs⟩ : Row) :: ((List.zipWith (intRowOf e2) vs M).eraseIdx i ++ R) := by
    unfold rowsOf valRowOf
    rw [List.cons_append, List.eraseIdx_cons_succ, List.eraseIdx_append_of_lt_length hl]
  rw [e0] at h
  have h1 : Own w B (⟨e1, 1, .slice (some ⟨g, 0, none⟩) vs.length c, vs.length, vs⟩ :: (intRowOf e2 v' xs :: ((List.zipWith (intRowOf e2) vs M).eraseIdx i ++ R))) := h.perm (List.Perm.swap _ _ _)
  refine ⟨h1.cellAt hi, h1.frozenAt i, ?_, fun r hr => h1.1 r (by simp [hr]), h1.lt.1⟩
  have h2 := h1.set i v'
  have e : rowsOf e1 e2 (.slice (some ⟨g, 0, none⟩) vs.length c) (vs.set i v') (M.set i xs) ++ R = (⟨e1, 1, .slice (some ⟨g, 0, none⟩) vs.length c, vs.length, vs.set i v'⟩ : Row) :: ((List.zipWith (intRowOf e2) vs M).set i (intRowOf e2 v' xs) ++ R) := by
    rw [zipWith_unset]
    unfold rowsOf valRowOf
    rw [List.length_set]
    rfl
  rw [e]
  refine h2.perm (List.Perm.cons _ ?_)
  have p := perm_set (List.zipWith (intRowOf e2) vs M) i (intRowOf e2 v' xs) hl
  exact p.append_right R
end Go.Proofs.Ytnlbjbnjjkilhaa
