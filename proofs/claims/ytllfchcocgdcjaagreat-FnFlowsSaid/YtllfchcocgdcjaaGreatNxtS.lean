/- The next work list, as the reference makes it. -/
import Derived.Test.YtllfchcocgdcjaaGreatGrH
import Derived.Test.YtllfchcocgdcjaaGreatGrG
namespace Go.Proofs.YtllfchcocgdcjaaGreat
open Go.RowKit

theorem confs_216 {n k : Nat} (hn : n ≤ 6) (hk : k ≤ 3) : (confs n k 0).length ≤ 216 := by
  have h1 := confs_len hn k 0
  have h2 : 6 ^ k ≤ 6 ^ 3 := Nat.pow_le_pow_right (by omega) hk
  omega
theorem pts_i64 {n : Nat} {a : List Int} (h : Pts n a) (hn : n ≤ 1000000) : ∀ x ∈ a, I64 x := fun x hx => by
  have := h x hx
  unfold I64
  omega
theorem met_row {M : List (List Int)} (h : metB M = true) {x : Nat} (hx : x < M.length) : (row M x).length = M.length := by
  have := met_sq h
  simp only [square, decide_eq_true_eq] at this
  exact this _ (row_mem hx)
theorem good_i64 {M P : List (List Int)} {ws : List Int} {L : Int} (h : GoodW M P ws L) (hL : L ≤ 2000000) : ∀ x ∈ ws, I64 x := fun x hx => by
  obtain ⟨j, hj, rfl⟩ := mem_iff_nth.1 hx
  have := h.2 j (by rw [← h.1.1]; exact hj)
  unfold I64
  omega

end Go.Proofs.YtllfchcocgdcjaaGreat
