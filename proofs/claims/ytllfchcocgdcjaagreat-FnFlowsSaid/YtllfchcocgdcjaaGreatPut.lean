/- A number put to its place in an ascending list, and the different numbers of a list: the reference's. -/
import Derived.Test.YtllfchcocgdcjaaGreatSrs
import Derived.Test.YtllfchcocgdcjaaGreatRisP
namespace Go.Proofs.YtllfchcocgdcjaaGreat
open Go.RowKit

/-- the list itself, or one of one's own -/
def PutOwn (w w' : World) (v u : Value) (L L' : List Int) : Prop := (u = v ∧ L' = L) ∨ Own w' w.heap.size [intRowOf 3 u L']
end Go.Proofs.YtllfchcocgdcjaaGreat
