/- The choice of the work function algorithm, the reference's; its first work list. -/
import Derived.Test.YtmgcfnciejfpbaaGreatQNxtS
namespace Go.Proofs.YtmgcfnciejfpbaaGreat
open Go.RowKit
end Go.Proofs.YtmgcfnciejfpbaaGreat
