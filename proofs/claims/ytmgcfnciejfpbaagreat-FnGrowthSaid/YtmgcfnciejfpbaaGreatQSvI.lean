/- The choice of the work function algorithm, the program's. -/
import Derived.Test.YtmgcfnciejfpbaaGreatQSvS
import Derived.Test.YtmgcfnciejfpbaaGreatQGrF
namespace Go.Proofs.YtmgcfnciejfpbaaGreat
open Go.RowKit
end Go.Proofs.YtmgcfnciejfpbaaGreat
