/- All offsets, as the reference finds them. -/
import Derived.Test.YtnlbjbnjjkilhaaPackA
import Derived.Deep.RegionHeld3
namespace Go.Proofs.Ytnlbjbnjjkilhaa
open Go.RowKit
theorem Own.push {w : World} {B : Nat} {A L : List Row} {r : Row} (h : Own w B (r :: (A ++ L))) : Own w B (A ++ (r :: L)) := h.perm List.perm_middle
end Go.Proofs.Ytnlbjbnjjkilhaa
