/- The greedy state, the reference's and the program's. -/
import Derived.Test.YtkniohcmhdgbeaaArg
import Derived.Test.YtkniohcmhdgbeaaWorkW
import Derived.Deep.RegionHeld3
namespace Go.Proofs.Ytkniohcmhdgbeaa
open Go.RowKit

end Go.Proofs.Ytkniohcmhdgbeaa
