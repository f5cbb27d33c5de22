/- The greedy state, the reference's and the program's. -/
import Derived.Test.YtobfehekjapnhaaArg
import Derived.Test.YtobfehekjapnhaaWorkW
import Derived.Deep.RegionHeld3
namespace Go.Proofs.Ytobfehekjapnhaa
open Go.RowKit

end Go.Proofs.Ytobfehekjapnhaa
