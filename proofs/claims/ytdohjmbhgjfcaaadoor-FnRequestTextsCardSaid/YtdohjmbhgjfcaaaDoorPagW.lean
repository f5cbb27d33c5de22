/- The small functions on sets of pages, walked: both sides. -/
import Derived.Test.YtdohjmbhgjfcaaaDoorProg
import Derived.Test.YtdohjmbhgjfcaaaDoorPagB
import Derived.WalkKit
import Derived.WalkSpells
import Derived.WalkLawsBesides
import Derived.Deep.QuietTactic
import Derived.BigQuiet
namespace Go.Proofs.YtdohjmbhgjfcaaaDoor
open Go.RowKit

end Go.Proofs.YtdohjmbhgjfcaaaDoor
