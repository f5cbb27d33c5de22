/- Draws of work lists. -/
import Derived.Test.YtmgcfnciejfpbaaGreatRMtW
import Derived.Test.YtmgcfnciejfpbaaGreatRGrM
namespace Go.Proofs.YtmgcfnciejfpbaaGreat
open Go.RowKit
end Go.Proofs.YtmgcfnciejfpbaaGreat
