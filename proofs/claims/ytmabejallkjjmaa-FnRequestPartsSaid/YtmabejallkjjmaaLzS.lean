/- The caches and the faults of a plan: the reference's. -/
import Derived.Test.YtmabejallkjjmaaLzP
import Derived.Test.YtmabejallkjjmaaPgL
import Derived.Test.YtmabejallkjjmaaGrD
import Derived.Test.YtmabejallkjjmaaGrE
namespace Go.Proofs.Ytmabejallkjjmaa
open Go.RowKit

theorem Tab.addR {w w' : World} {B : Nat} {v : Value} {M : List (List Int)} {R S : List Row} (h : Tab w B v M R) (hn : Own w' w.heap.size S) (e : Ext w w') (hB : B ≤ w.heap.size) : Tab w' B v M (S ++ R) := by
  obtain ⟨vs, h1, h2⟩ := h
  refine ⟨vs, h1, (Own.join h2 hn hB).perm ?_⟩
  rw [← List.append_assoc, ← List.append_assoc]
  exact List.perm_append_comm.append_right _
theorem Tab.subR {w : World} {B : Nat} {v : Value} {M : List (List Int)} {R R' : List Row} (h : Tab w B v M R) (p : R'.Sublist R) : Tab w B v M R' := by
  obtain ⟨vs, h1, h2⟩ := h
  exact ⟨vs, h1, h2.sub (p.append_left _)⟩

/-- what the run of a plan gives -/
def RnPost (k : Int) (X P : List Int) (w : World) (e : Ending) (w' : World) : Prop :=
  ∃ u, e = .returned (.tuple #[u, .int .i64 (if rnB k X P X.length then rnF X P X.length else 0), .bool (rnB k X P X.length)]) ∧ IsRows w' u (if rnB k X P X.length then rnL X P X.length else []) ∧ Ext w w'
theorem rn_fail {k : Int} {X P : List Int} {w w' : World} {d : Option Addr} {c : Nat} (h : rnB k X P X.length = false) (e : Ext w w') : RnPost k X P w (.returned (.tuple #[.slice d 0 c, .int .i64 0, .bool false])) w' :=
  ⟨.slice d 0 c, by rw [h]; rfl, by rw [h]; exact ⟨d, c, rfl, Nat.zero_le _, fun j hj => by simp at hj⟩, e⟩

end Go.Proofs.Ytmabejallkjjmaa
