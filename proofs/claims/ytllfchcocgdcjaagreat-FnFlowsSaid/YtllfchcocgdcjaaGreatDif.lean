/- The different numbers of a list, and whether numbers are rising: the reference's. -/
import Derived.Test.YtllfchcocgdcjaaGreatPut
import Derived.Test.YtllfchcocgdcjaaGreatGrB
import Derived.Test.YtllfchcocgdcjaaGreatMbP
namespace Go.Proofs.YtllfchcocgdcjaaGreat
open Go.RowKit

theorem difL_take {X : List Int} {k : Nat} (h : k < X.length) : difL (X.take (k + 1)) = putL (difL (X.take k)) (nth X k) := by
  rw [take_succ_nth h, difL_snoc]

/-- whether numbers are in strictly ascending order -/
def rsB (xs : List Int) : Bool := decide (xs = difL xs)
theorem rsB_iff {xs : List Int} : rsB xs = true ↔ SAsc xs := by
  unfold rsB
  rw [decide_eq_true_iff, sasc_iff]
  exact eq_comm
theorem rsg_iff {xs : List Int} : rsg xs ↔ SAsc xs := by
  constructor
  · intro h
    refine List.pairwise_iff_getElem.2 fun i j hi hj hij => ?_
    have := rsg_lt h hij hj
    simpa [nth, hi, hj] using this
  · intro h j hj
    have := List.pairwise_iff_getElem.1 h j (j + 1) (by omega) hj (by omega)
    have hj' : j < xs.length := by omega
    simpa [nth, hj, hj'] using this
theorem rsB_not {xs : List Int} {k : Nat} (hk : k < xs.length) (h0 : 0 < k) (h : nth xs k ≤ nth xs (k - 1)) : rsB xs = false := by
  cases hb : rsB xs with
  | false => rfl
  | true =>
    have := rsg_iff.2 (rsB_iff.1 hb) (k - 1) (by omega)
    rw [Nat.sub_add_cancel h0] at this
    omega

end Go.Proofs.YtllfchcocgdcjaaGreat
