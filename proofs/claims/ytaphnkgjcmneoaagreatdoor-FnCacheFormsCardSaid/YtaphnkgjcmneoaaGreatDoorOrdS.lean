/- The orders of the numbers below k: of the reference. -/
import Derived.Test.YtaphnkgjcmneoaaGreatDoorPackB
namespace Go.Proofs.YtaphnkgjcmneoaaGreatDoor
open Go.RowKit

end Go.Proofs.YtaphnkgjcmneoaaGreatDoor
