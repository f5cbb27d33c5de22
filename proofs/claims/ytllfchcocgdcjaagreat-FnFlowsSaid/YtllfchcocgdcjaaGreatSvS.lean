/- The choice of the work function algorithm, the reference's; its first work list. -/
import Derived.Test.YtllfchcocgdcjaaGreatNxtS
namespace Go.Proofs.YtllfchcocgdcjaaGreat
open Go.RowKit
end Go.Proofs.YtllfchcocgdcjaaGreat
