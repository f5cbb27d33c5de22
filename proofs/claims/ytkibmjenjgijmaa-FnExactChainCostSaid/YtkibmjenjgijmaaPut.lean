/- A number put to its place in an ascending list, and the different numbers of a list: the reference's. -/
import Derived.Test.YtkibmjenjgijmaaSrs
import Derived.Test.YtkibmjenjgijmaaRisP
namespace Go.Proofs.Ytkibmjenjgijmaa
open Go.RowKit

end Go.Proofs.Ytkibmjenjgijmaa
