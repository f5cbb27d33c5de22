/- Readings that last while two boxes change. -/
import Derived.Test.YtaphnkgjcmneoaaGreatDoorCsz
namespace Go.Proofs.YtaphnkgjcmneoaaGreatDoor
open Go.RowKit

/-- a list that reads, and lies in neither of two blocks -/
def RD (u : World) (c r : Nat) (v : Value) (L : List Int) : Prop := IsInts u v L ∧ ∀ b o n m, v = .slice (some ⟨b, o, none⟩) n m → 0 < L.length → b ≠ c ∧ b ≠ r
theorem RD.ext {u u' : World} {c r : Nat} {v : Value} {L : List Int} (h : RD u c r v L) (e : Ext u u') : RD u' c r v L := ⟨h.1.ext, h.2⟩
theorem RD.set {u : World} {c r : Nat} {v : Value} {L : List Int} (h : RD u c r v L) {p : Addr} (hp : p.block = c ∨ p.block = r) (x : Value) : RD (u.setCell p x) c r v L := by
  obtain ⟨⟨a, n, h1, h2, h3, h4⟩, hn⟩ := h
  refine ⟨⟨a, n, h1, h2, h3, fun j hj => ?_⟩, hn⟩
  obtain ⟨b, o, h5, h6⟩ := h4 j hj
  refine ⟨b, o, h5, ?_⟩
  subst h5
  have h7 := hn b o _ _ h1 (by omega)
  have hb := Below.heap_setCell u p x b (by rcases hp with hp | hp <;> rw [hp] <;> first | exact h7.1 | exact h7.2)
  exact (World.cell?_of_block (w := u) hb).trans h6
theorem RD.of {u w0 : World} {c r : Nat} {v : Value} {L : List Int} (h : IsInts w0 v L) (e : Ext w0 u) (hc : w0.heap.size ≤ c) (hr : w0.heap.size ≤ r) : RD u c r v L := by
  refine ⟨h.ext, fun b o n m hv hl => ?_⟩
  subst hv
  obtain ⟨b', o', h5, h6⟩ := h.at (w' := w0) hl
  cases h5
  have h7 : b < w0.heap.size := by
    by_cases hb : b < w0.heap.size
    · exact hb
    · have : w0.heap[b]? = none := Array.getElem?_eq_none (by omega)
      simp [World.cell?, this] at h6
  omega
theorem RD.own {u : World} {B e n m c r : Nat} {d : Option Addr} {L : List Int} {R : List Row} (h : Own u B (intRowOf e (.slice d n m) L :: R)) (hc : c < B) (hr : r < B) (hs : Short L.length) (hi : ∀ x ∈ L, I64 x) : RD u c r (.slice d n m) L := by
  have hI := h.reads hs hi
  refine ⟨hI, fun b o n' m' hv hl => ?_⟩
  cases hv
  have hn := hI.len
  subst hn
  obtain ⟨g, hg⟩ := own_ptr h rfl hl
  cases hg
  have := own_low h rfl
  omega
end Go.Proofs.YtaphnkgjcmneoaaGreatDoor
