/- The run of an algorithm: the reference's states and cost, the program's run. -/
import Derived.Test.YtmgcfnciejfpbaaGreatRun
import Derived.Test.YtmgcfnciejfpbaaGreatReads
import Derived.Deep.RegionWith
import Derived.IntWalk
namespace Go.Proofs.YtmgcfnciejfpbaaGreat
open Go.RowKit

end Go.Proofs.YtmgcfnciejfpbaaGreat
