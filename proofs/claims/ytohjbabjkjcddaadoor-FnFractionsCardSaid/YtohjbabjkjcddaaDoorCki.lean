/- Checksums of texts: the program's and the reference's. -/
import Derived.Test.YtohjbabjkjcddaaDoorCkp
import Derived.Test.YtohjbabjkjcddaaDoorNmi
import Derived.Test.YtohjbabjkjcddaaDoorTxc
import Derived.Lib.IndexAny
namespace Go.Proofs.YtohjbabjkjcddaaDoor
open Go.RowKit

theorem ckL_le (L : List UInt8) : ckL 7 L < 999979 := ck_lt L
end Go.Proofs.YtohjbabjkjcddaaDoor
