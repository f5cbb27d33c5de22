/- Sealing a text, and reading a sealed one: the program's and the reference's. -/
import Derived.Test.YtaphnkgjcmneoaaGreatDoorCki
namespace Go.Proofs.YtaphnkgjcmneoaaGreatDoor
open Go.RowKit

theorem Ext.same {w : World} : Ext w w := Ext.refl w
theorem seal_len {L : List UInt8} (h : L.length ≤ 1000000) : (sealL L).length ≤ 1000022 := by
  have h1 := ck_lt L
  have h2 := itoa_len (n := (ck L : Int)) (by omega)
  unfold sealL
  rw [List.length_append, List.length_append]
  simp only [List.length_cons, List.length_nil]
  omega

end Go.Proofs.YtaphnkgjcmneoaaGreatDoor
