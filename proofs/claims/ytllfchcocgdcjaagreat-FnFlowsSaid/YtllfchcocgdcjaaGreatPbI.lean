/- The bound of prices: PriceBound of the program. -/
import Derived.Test.YtllfchcocgdcjaaGreatChn
import Derived.Test.YtllfchcocgdcjaaGreatAsP
import Derived.Test.YtllfchcocgdcjaaGreatGrJ
namespace Go.Proofs.YtllfchcocgdcjaaGreat
open Go.RowKit

/-- a row may have the columns of the servers and of the rows ahead of it -/
def alB (k : Nat) (i l : Nat) : Bool := decide (l < k + i)
end Go.Proofs.YtllfchcocgdcjaaGreat
