/- The choice of the work function algorithm, the program's. -/
import Derived.Test.YtcfhmbmagkoekaaSvS
import Derived.Test.YtcfhmbmagkoekaaGrF
namespace Go.Proofs.Ytcfhmbmagkoekaa
open Go.RowKit

theorem sv_yesI {M P : List (List Int)} {nx a : List Int} {r : Int} {s : Nat} (h : svN M P nx a r s < (svT M P nx a r s).2.2 ∨ (svN M P nx a r s = (svT M P nx a r s).2.2 ∧ lexC (svX a r s) (svT M P nx a r s).1 < 0)) : (svT M P nx a r (s + 1)).1 = svX a r s ∧ (svT M P nx a r (s + 1)).2.1 = cell M (nth a s).toNat r.toNat ∧ (svT M P nx a r (s + 1)).2.2 = svN M P nx a r s := by
  rw [svT_yes h]
  exact ⟨rfl, rfl, rfl⟩

end Go.Proofs.Ytcfhmbmagkoekaa
