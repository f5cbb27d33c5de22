/- A plan that a draw makes. -/
import Derived.Test.YtmabejallkjjmaaPgD
import Derived.Deep.CutRange
namespace Go.Proofs.Ytmabejallkjjmaa
open Go.RowKit

end Go.Proofs.Ytmabejallkjjmaa
