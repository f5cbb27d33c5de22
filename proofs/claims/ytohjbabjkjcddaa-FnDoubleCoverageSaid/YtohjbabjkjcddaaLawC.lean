/- eqIntSS -/
import Derived.Test.YtohjbabjkjcddaaLawB
namespace Go.Proofs.Ytohjbabjkjcddaa
open Go.RowKit

/-- what heldIntSS answers -/
def heldR (M : List (List Int)) (k : Int) : Int := if M = markR M k then k + sumLen M else -1

/-- A value that reads as a problem of moves M and serves S. -/
def IsProb (w : World) (v : Value) (M S : List (List Int)) : Prop := ∃ v1 v2, v = .agg #[v1, v2] ∧ IsRows w v1 M ∧ IsRows w v2 S

theorem IsProb.ext {w w' : World} {v : Value} {M S : List (List Int)} (h : IsProb w v M S) [e : Ext w w'] : IsProb w' v M S := by
  obtain ⟨v1, v2, h0, h1, h2⟩ := h
  exact ⟨v1, v2, h0, h1.ext, h2.ext⟩
theorem Own.prob {w w0 : World} {B e1 e2 : Nat} {u1 u2 v0 : Value} {vs1 vs2 : List Value} {M S : List (List Int)} {R : List Row} (h : Own w B (rowsOf e1 e2 u1 vs1 M ++ (rowsOf e1 e2 u2 vs2 S ++ R))) (h1 : vs1.length = M.length) (h2 : vs2.length = S.length) (hp : IsProb w0 v0 M S) :
    IsProb w (.agg #[u1, u2]) M S := by
  obtain ⟨_, _, _, hM, hS⟩ := hp
  exact ⟨u1, u2, rfl, h.readsAll h1 hM.all.1 hM.all.2.1 hM.all.2.2, h.right.readsAll h2 hS.all.1 hS.all.2.1 hS.all.2.2⟩

theorem Own.prob' {w w0 : World} {B e1 e2 : Nat} {u1 u2 v0 : Value} {vs1 vs2 : List Value} {M S : List (List Int)} (h : Own w B (rowsOf e1 e2 u1 vs1 M ++ rowsOf e1 e2 u2 vs2 S)) (h1 : vs1.length = M.length) (h2 : vs2.length = S.length) (hp : IsProb w0 v0 M S) :
    IsProb w (.agg #[u1, u2]) M S := by
  have h' : Own w B (rowsOf e1 e2 u1 vs1 M ++ (rowsOf e1 e2 u2 vs2 S ++ [])) := by rw [List.append_nil]; exact h
  exact h'.prob h1 h2 hp

theorem perm_a {α : Type} (x : α) (A S R : List α) : (S ++ (x :: (A ++ R))).Perm (x :: (A ++ (S ++ R))) := by
  classical
  refine List.perm_iff_count.2 fun y => ?_
  simp only [List.count_append, List.count_cons]
  omega
theorem perm_b {α : Type} (x : α) (A S R : List α) : (x :: (A ++ (S ++ R))).Perm (S ++ (x :: (A ++ R))) := (perm_a x A S R).symm

def eqP (M S M' S' : List (List Int)) : Bool := eqR M M' && eqR S S'
theorem eqP_iff {M S M' S' : List (List Int)} : eqP M S M' S' = true ↔ M = M' ∧ S = S' := by simp [eqP, eqR_iff]

end Go.Proofs.Ytohjbabjkjcddaa
