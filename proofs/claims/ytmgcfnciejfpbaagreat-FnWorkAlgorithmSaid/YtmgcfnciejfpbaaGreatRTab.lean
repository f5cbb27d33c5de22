/- A table of one's own: rows of ints in a slice of slices, read, written, appended to. -/
import Derived.Test.YtmgcfnciejfpbaaGreatRGrA
namespace Go.Proofs.YtmgcfnciejfpbaaGreat
open Go.RowKit
end Go.Proofs.YtmgcfnciejfpbaaGreat
