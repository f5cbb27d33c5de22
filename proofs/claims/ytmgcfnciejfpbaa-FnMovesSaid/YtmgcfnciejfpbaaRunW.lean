/- The run of an algorithm: the reference's states and cost, the program's run. -/
import Derived.Test.YtmgcfnciejfpbaaRun
import Derived.Test.YtmgcfnciejfpbaaReads
import Derived.Deep.RegionWith
import Derived.IntWalk
namespace Go.Proofs.Ytmgcfnciejfpbaa
open Go.RowKit

end Go.Proofs.Ytmgcfnciejfpbaa
