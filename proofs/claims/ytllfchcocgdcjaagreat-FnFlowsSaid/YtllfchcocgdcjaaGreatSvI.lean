/- The choice of the work function algorithm, the program's. -/
import Derived.Test.YtllfchcocgdcjaaGreatSvS
import Derived.Test.YtllfchcocgdcjaaGreatGrF
namespace Go.Proofs.YtllfchcocgdcjaaGreat
open Go.RowKit
end Go.Proofs.YtllfchcocgdcjaaGreat
