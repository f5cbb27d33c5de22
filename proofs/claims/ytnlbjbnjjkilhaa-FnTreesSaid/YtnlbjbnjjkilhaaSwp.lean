/- One point of a list in the place of another one: the reference's. -/
import Derived.Test.YtnlbjbnjjkilhaaSrt
import Derived.Test.YtnlbjbnjjkilhaaPackA
namespace Go.Proofs.Ytnlbjbnjjkilhaa
open Go.RowKit
end Go.Proofs.Ytnlbjbnjjkilhaa
