/- The greedy state, the reference's and the program's. -/
import Derived.Test.YtmgcfnciejfpbaaArg
import Derived.Test.YtmgcfnciejfpbaaWorkW
import Derived.Deep.RegionHeld3
namespace Go.Proofs.Ytmgcfnciejfpbaa
open Go.RowKit

end Go.Proofs.Ytmgcfnciejfpbaa
