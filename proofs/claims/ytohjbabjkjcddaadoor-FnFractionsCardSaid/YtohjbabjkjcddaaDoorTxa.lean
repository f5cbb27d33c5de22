/- Numbers with spaces between them, and the text of a metric and of a problem: the program's. -/
import Derived.Test.YtohjbabjkjcddaaDoorTxp
namespace Go.Proofs.YtohjbabjkjcddaaDoor
open Go.RowKit

theorem Tryd.infoStr : (Tryd.prog.info? 9).map (fun i => (i.zero, i.size, i.bytes)) = some (some (.string ⟨#[]⟩), 1, 16) := by kernel_rfl
def strV (S : List (List UInt8)) : List Value := S.map fun L => .string (bsOf L)
theorem strV_len (S : List (List UInt8)) : (strV S).length = S.length := by simp [strV]
theorem strV_at {S : List (List UInt8)} {j : Nat} (h : j < S.length) : (strV S).getD j undef = .string (bsOf S[j]) := by simp [strV, h]

theorem sp_len {X : List Int} {k : Nat} (hl : X.length ≤ k) (hb : ∀ x ∈ X, -1000000000000000 ≤ x ∧ x ≤ 1000000000000000) : (spL X).length ≤ k * 22 := by
  have h := join_len (sep := [32]) (c := 21) (r := X.map Lib.itoa) fun y hy => by
    obtain ⟨x, hx, rfl⟩ := List.mem_map.1 hy
    exact itoa_len (hb x hx)
  rw [List.length_map] at h
  have : X.length * (21 + 1) ≤ k * 22 := Nat.mul_le_mul_right 22 hl
  exact Nat.le_trans h this

end Go.Proofs.YtohjbabjkjcddaaDoor
