/- Maps that a call makes, keyed by three ints: what a key reads as. -/
import Derived.Test.YtohjbabjkjcddaaDcL
import Derived.DeepKeys4
import Derived.Maps.OwnSet
import Derived.Maps.Views
import Derived.Maps.RangeWalk
namespace Go.Proofs.Ytohjbabjkjcddaa
open Go.RowKit Go.Maps

theorem Try.laidOut3 : laidOutB Try.prog = true := by kernel_rfl
theorem Try.rowKey3 : (68 : TypeId) < Try.prog.types.size := of_decide_eq_true (by kernel_rfl)
theorem Try.cellsKey3 : Try.prog.cellsOf 68 = 3 := by kernel_rfl
theorem Try.cellsKeyInt3 : Try.prog.cellsOf 3 = 1 := by kernel_rfl
theorem Try.keyTypeKey3 : Try.prog.keyType 68 = true := by kernel_rfl
theorem Try.wideKey3 : (match Try.prog.underlying 68 with | some (.array _ _) | some (.struct _) => true | _ => false) = true := by rw [Try.underlying68]
theorem Try.keyAtKey3 : Try.prog.keyTypeAt 2 68 = true := by kernel_rfl
theorem Try.sizeTypes3 : (0 : Nat) < Try.prog.types.size := of_decide_eq_true (by kernel_rfl)
set_option maxRecDepth 100000 in
theorem key3_law : Keyed Try.prog 68 := Keyed.of_law (deep_law_laid Try.laidOut3 (m := 2) (by omega) Try.rowKey3 Try.keyAtKey3 Try.wideKey3)
def k3 (a b c : Int) : Lit := .string (keyBytes [.int .i64 a, .int .i64 b, .int .i64 c])
theorem wf3_of {a : Int} (h : I64 a) : (Lit.int .i64 a).wf = true := by
  unfold I64 at h
  exact WalkArith.wf_i64 (by omega)
theorem keyOf_tri {a b c : Int} (ha : I64 a) (hb : I64 b) (hc3 : I64 c) : keyOf Try.prog 68 (.agg #[.int .i64 a, .int .i64 b, .int .i64 c]) = some (k3 a b c) := by
  have hf : (Value.agg #[.int .i64 a, .int .i64 b, .int .i64 c]).formed Try.prog 68 = true := by simp [Value.formed, Try.underlying68, Try.cellsKey3]
  have hc : (Value.agg #[.int .i64 a, .int .i64 b, .int .i64 c]).cells.toList = [.int .i64 a, .int .i64 b, .int .i64 c] := rfl
  obtain ⟨m, hm⟩ := Nat.exists_eq_succ_of_ne_zero (Nat.ne_of_gt Try.sizeTypes3)
  have hm : Try.prog.types.size = m + 1 := hm
  have i1 : Try.prog.keyLits (m + 1) 3 [.int .i64 a] = some [.int .i64 a] := by simp [Program.keyLits, Try.underlying3, wf3_of ha]
  have i2 : Try.prog.keyLits (m + 1) 3 [.int .i64 b] = some [.int .i64 b] := by simp [Program.keyLits, Try.underlying3, wf3_of hb]
  have i3 : Try.prog.keyLits (m + 1) 3 [.int .i64 c] = some [.int .i64 c] := by simp [Program.keyLits, Try.underlying3, wf3_of hc3]
  have hl : Try.prog.keyLits (m + 1 + 1) 68 [.int .i64 a, .int .i64 b, .int .i64 c] = some [.int .i64 a, .int .i64 b, .int .i64 c] := by
    rw [Program.keyLits.eq_def]
    simp only [Try.underlying68, Try.cellsKey3, Try.cellsKeyInt3]
    simp [List.range_succ, i1, i2, i3]
  unfold keyOf
  rw [Try.underlying68, hm, hc, hl, Try.keyTypeKey3, hf]
  rfl
theorem k3_inj {a b c a' b' c' : Int} (ha : I64 a) (hb : I64 b) (hc : I64 c) (ha' : I64 a') (hb' : I64 b') (hc' : I64 c') (h : k3 a b c = k3 a' b' c') : a = a' ∧ b = b' ∧ c = c' := by
  have h1 := keyOf_tri ha hb hc
  rw [h] at h1
  have := key3_law.inj h1 (keyOf_tri ha' hb' hc')
  simp only [Value.agg.injEq, Array.mk.injEq, List.cons.injEq, Value.int.injEq, true_and, and_true] at this
  exact this
theorem k3_key {a b c : Int} (ha : I64 a) (hb : I64 b) (hc : I64 c) : WideAt.IsKeyLit (k3 a b c) := key3_law.key (keyOf_tri ha hb hc)
theorem key_val {a b c : Int} (ha : I64 a) (hb : I64 b) (hc : I64 c) {v : Value} (h : keyOf Try.prog 68 v = some (k3 a b c)) : v = .agg #[.int .i64 a, .int .i64 b, .int .i64 c] :=
  key3_law.inj h (keyOf_tri ha hb hc)
end Go.Proofs.Ytohjbabjkjcddaa
