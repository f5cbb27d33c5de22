/- The orders of the numbers below k: of the reference. -/
import Derived.Test.YtohjbabjkjcddaaOrd
namespace Go.Proofs.Ytohjbabjkjcddaa
open Go.RowKit

end Go.Proofs.Ytohjbabjkjcddaa
