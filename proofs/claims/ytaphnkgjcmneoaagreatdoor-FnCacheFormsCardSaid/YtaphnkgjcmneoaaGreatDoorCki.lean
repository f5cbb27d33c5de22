/- Checksums of texts: the program's and the reference's. -/
import Derived.Test.YtaphnkgjcmneoaaGreatDoorPackA
import Derived.Test.YtaphnkgjcmneoaaGreatDoorNmi
import Derived.Lib.IndexAny
namespace Go.Proofs.YtaphnkgjcmneoaaGreatDoor
open Go.RowKit

theorem ckL_le (L : List UInt8) : ckL 7 L < 999979 := ck_lt L
end Go.Proofs.YtaphnkgjcmneoaaGreatDoor
