/- The algorithms that are made row by row: the reference's and the program's. Written by made.py. -/
import Derived.Test.YtmgcfnciejfpbaaGreedy
namespace Go.Proofs.Ytmgcfnciejfpbaa
open Go.RowKit

def byRow (f : Nat → Nat → Int) (s r : Nat) : List Int := (List.range r).map fun r => f s r
def byTo (f : Nat → Nat → Int) (m s : Nat) : List (List Int) := (List.range s).map fun s => byRow f s m
theorem byRow_succ (f : Nat → Nat → Int) (s r : Nat) : byRow f s (r + 1) = byRow f s r ++ [f s r] := by simp [byRow, List.range_succ]
theorem byTo_succ (f : Nat → Nat → Int) (m s : Nat) : byTo f m (s + 1) = byTo f m s ++ [byRow f s m] := by simp [byTo, List.range_succ]
theorem byRow_length (f : Nat → Nat → Int) (s r : Nat) : (byRow f s r).length = r := by simp [byRow]
theorem byTo_length (f : Nat → Nat → Int) (m s : Nat) : (byTo f m s).length = s := by simp [byTo]

theorem Own.formVals {w : World} {B e : Nat} {v : Value} {vs : List Value} {R : List Row} (h : Own w B (valRowOf e v vs :: R)) : ∃ d m, v = .slice d vs.length m := h.form
/-- the new row goes behind the others -/
theorem rows_turn {w : World} {B e1 e2 : Nat} {v rv : Value} {vs : List Value} {M : List (List Int)} {xs : List Int} (h : Own w B (intRowOf e2 rv xs :: rowsOf e1 e2 v vs M)) :
    Own w B (⟨e1, 1, v, vs.length, vs⟩ :: (List.zipWith (intRowOf e2) vs M ++ [intRowOf e2 rv xs])) :=
  h.perm (((List.perm_append_singleton (intRowOf e2 rv xs) (List.zipWith (intRowOf e2) vs M)).cons _).trans (List.Perm.swap _ _ _))
theorem rows_snoc {w : World} {B e1 e2 : Nat} {v rv : Value} {vs : List Value} {M : List (List Int)} {xs : List Int} (h : Own w B (⟨e1, 1, v, vs.length + 1, vs ++ [rv]⟩ :: (List.zipWith (intRowOf e2) vs M ++ [intRowOf e2 rv xs]))) (hl : vs.length = M.length) :
    Own w B (rowsOf e1 e2 v (vs ++ [rv]) (M ++ [xs])) := by
  unfold rowsOf valRowOf
  rw [List.zipWith_append hl, List.length_append]
  exact h

def madeAt (M S : List (List Int)) (lz : Bool) (s r : Nat) : Int := if lz = true ∧ 0 ≤ cell S r s then (s : Int) else greedyAt M S s r
def madeL (M S : List (List Int)) (lz : Bool) : List (List Int) := byTo (madeAt M S lz) S.length M.length

end Go.Proofs.Ytmgcfnciejfpbaa
