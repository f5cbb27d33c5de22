/- The library's functions on slices that take a function. -/
import Derived.Test.YtohjbabjkjcddaaDoorLawA
namespace Go.Proofs.YtohjbabjkjcddaaDoor
open Go.RowKit

end Go.Proofs.YtohjbabjkjcddaaDoor
