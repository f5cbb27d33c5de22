/- The best matching of two configurations and its cost: the program's. -/
import Derived.Test.YtaphnkgjcmneoaaGreatDoorPackB
namespace Go.Proofs.YtaphnkgjcmneoaaGreatDoor
open Go.RowKit

theorem IsInts.pt {w w' : World} {a : Option Addr} {n c : Nat} {xs : List Int} (h : IsInts w (.slice a n c) xs) {q : Nat} (hp : Pts q xs) [e : Ext w w'] {k : Nat} (hk : k < xs.length) :
    ∃ b o, ∃ x : Nat, a = some ⟨b, o, none⟩ ∧ nth xs k = x ∧ x < q ∧ w'.cell? ⟨b, o + k, none⟩ = some (.int .i64 (x : Int)) := by
  obtain ⟨b, o, h1, h2⟩ := h.at (w' := w') hk
  have := hp _ (nth_mem hk)
  refine ⟨b, o, (nth xs k).toNat, h1, by omega, by omega, ?_⟩
  rw [h2, Int.toNat_of_nonneg this.1]

end Go.Proofs.YtaphnkgjcmneoaaGreatDoor
