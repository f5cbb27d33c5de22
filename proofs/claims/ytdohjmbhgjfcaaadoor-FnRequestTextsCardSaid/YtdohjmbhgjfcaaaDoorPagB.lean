/- What the program's bit operations give on sets of pages. -/
import Derived.Test.YtdohjmbhgjfcaaaDoorPagP
import Derived.WalkKit
import Derived.WalkSpells
import Derived.WalkLawsBesides
namespace Go.Proofs.YtdohjmbhgjfcaaaDoor
open Go.RowKit

set_option maxRecDepth 100000 in
theorem bit_and : ∀ S, S < 256 → ∀ p, p < 8 → (bits BinOp.and IntKind.i64 (((S : Nat) : Int) / 2 ^ p) 1 == 1) = S.testBit p := by decide
theorem bit_shl (p : Nat) (h : p < 9) : wrap64 (2 ^ p) = ((2 ^ p : Nat) : Int) := by
  have e : (2 : Int) ^ p = ((2 ^ p : Nat) : Int) := by simp
  have h1 : 2 ^ p ≤ 2 ^ 8 := Nat.pow_le_pow_right (by omega) (by omega)
  rw [e]
  generalize 2 ^ p = m at *
  unfold wrap64; omega
set_option maxRecDepth 100000 in
theorem bit_or : ∀ S, S < 256 → ∀ p, p < 8 → bits BinOp.or IntKind.i64 ((S : Nat) : Int) ((2 ^ p : Nat) : Int) = ((S ||| 2 ^ p : Nat) : Int) := by decide
set_option maxRecDepth 100000 in
theorem bit_andNot : ∀ S, S < 256 → ∀ q, q < 8 → S.testBit q = true → bits BinOp.andNot IntKind.i64 ((S : Nat) : Int) ((2 ^ q : Nat) : Int) = ((S - 2 ^ q : Nat) : Int) := by decide
set_option maxRecDepth 100000 in
theorem sub_bit : ∀ S, S < 256 → ∀ q, q < 8 → S.testBit q = true → 2 ^ q ≤ S := by decide
set_option maxRecDepth 100000 in
/-- the reference counts the pages of a set by halving -/
theorem sz_half : ∀ S, S < 256 → szS S = S % 2 + szS (S / 2) := by decide
end Go.Proofs.YtdohjmbhgjfcaaaDoor
