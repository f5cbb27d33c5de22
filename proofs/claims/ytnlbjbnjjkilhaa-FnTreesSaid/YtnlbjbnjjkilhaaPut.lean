/- A number put to its place in an ascending list, and the different numbers of a list: the reference's. -/
import Derived.Test.YtnlbjbnjjkilhaaSrs
import Derived.Test.YtnlbjbnjjkilhaaPackA
namespace Go.Proofs.Ytnlbjbnjjkilhaa
open Go.RowKit
end Go.Proofs.Ytnlbjbnjjkilhaa
