/- Whether a list is a work list, and the next one: program and reference. -/
import Derived.Test.YtmgcfnciejfpbaaGreatRWsv
import Derived.Test.YtmgcfnciejfpbaaGreatRNxtS
import Derived.Test.YtmgcfnciejfpbaaGreatRWkw
namespace Go.Proofs.YtmgcfnciejfpbaaGreat
open Go.RowKit

def iwB (M : List (List Int)) (k : Int) (ws : List Int) : Bool := askB M k && workB M (confs M.length k.toNat 0) ws
end Go.Proofs.YtmgcfnciejfpbaaGreat
