/- Work functions and least costs walked, the reference's and the program's. -/
import Derived.Test.YtmgcfnciejfpbaaGreatNextI
import Derived.Test.YtmgcfnciejfpbaaGreatAlgS
namespace Go.Proofs.YtmgcfnciejfpbaaGreat
open Go.RowKit

theorem wOk_i64 {M : List (List Int)} {w : List Int} {B : Int} (h : wOk M w B) (hB : B ≤ 1000000) : ∀ x ∈ w, I64 x := by
  intro x hx
  obtain ⟨k, hk, rfl⟩ := mem_iff_nth.1 hx
  have := h.2 k (by rw [← h.1]; exact hk)
  unfold I64
  omega
theorem start_work {M S : List (List Int)} {s : Int} {X : List Int} (h : startB M S s X = true) {k : Nat} (hk : k ≤ X.length) : wOk M (workTo M S (row M s.toNat) X k) 10000 := by
  have hs := startB_state h
  have hl := startB_len h
  have := workTo_ok (startB_prob h) (row_ok (startB_prob h) (s := s.toNat) (by omega)) (X := X) (fun j hj => by have := startB_req h hj; omega) hk (by omega)
  exact ⟨this.1, fun t ht => by have h2 := this.2 t ht; omega⟩
theorem start_workL {M S : List (List Int)} {s : Int} {X : List Int} (h : startB M S s X = true) : wOk M (workL M S (row M s.toNat) X) 10000 := start_work h (Nat.le_refl _)

end Go.Proofs.YtmgcfnciejfpbaaGreat
