/- AlgorithmStates and AlgorithmCost of the reference and of the program. Written by algs.py. -/
import Derived.Test.YtmgcfnciejfpbaaGreatRunW
namespace Go.Proofs.YtmgcfnciejfpbaaGreat
open Go.RowKit

theorem isInts_zero (w : World) (d : Option Addr) (c : Nat) : IsInts w (.slice d ([] : List Int).length c) [] := ⟨d, c, rfl, ⟨Nat.zero_le _, Nat.zero_le _⟩, by simp, fun j hj => by simp at hj⟩
theorem isRows_zero (w : World) (d : Option Addr) (c : Nat) : IsRows w (.slice d ([] : List (List Int)).length c) [] := ⟨d, c, rfl, Nat.zero_le _, fun j hj => by simp at hj⟩
theorem own_nils_i (w : World) (B : Nat) : Own w B [intRowOf 3 (.slice none ([] : List Int).length 0) []] := (Own.nil w B).cons_nil _ _
theorem own_nils_r (w : World) (B : Nat) : Own w B (rowsOf 27 3 (.slice none ([] : List (List Int)).length 0) [] []) := (Own.nil w B).cons_nil _ _
theorem own_nils_rr (w : World) (B : Nat) : Own w B (rowsOf 27 3 (.slice none ([] : List (List Int)).length 0) [] [] ++ rowsOf 27 3 (.slice none ([] : List (List Int)).length 0) [] []) := ((Own.nil w B).cons_nil _ _).cons_nil _ _

end Go.Proofs.YtmgcfnciejfpbaaGreat
