/- The different numbers of a list, and whether numbers are rising: the reference's. -/
import Derived.Test.YtnlbjbnjjkilhaaPut
import Derived.Test.YtnlbjbnjjkilhaaPackA
namespace Go.Proofs.Ytnlbjbnjjkilhaa
open Go.RowKit
end Go.Proofs.Ytnlbjbnjjkilhaa
