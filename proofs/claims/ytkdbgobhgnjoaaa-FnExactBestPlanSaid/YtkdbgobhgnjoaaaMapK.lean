/- Maps that a call makes, keyed by pairs of ints: what a key reads as, how many entries there can be. -/
import Derived.Test.YtkdbgobhgnjoaaaLawA
import Derived.DeepKeys4
import Derived.Maps.OwnSet
import Derived.Maps.Views
namespace Go.Proofs.Ytkdbgobhgnjoaaa
open Go.RowKit Go.Maps

theorem Try.laidOut : laidOutB Try.prog = true := by kernel_rfl
theorem Try.rowKey : (74 : TypeId) < Try.prog.types.size := of_decide_eq_true (by kernel_rfl)
theorem Try.cellsKey : Try.prog.cellsOf 74 = 2 := by kernel_rfl
theorem Try.cellsKeyInt : Try.prog.cellsOf 3 = 1 := by kernel_rfl
theorem Try.keyTypeKey : Try.prog.keyType 74 = true := by kernel_rfl
theorem Try.wideKey : (match Try.prog.underlying 74 with | some (.array _ _) | some (.struct _) => true | _ => false) = true := by rw [Try.underlying74]
theorem Try.keyAtKey : Try.prog.keyTypeAt 2 74 = true := by kernel_rfl
theorem Try.sizeTypes : (0 : Nat) < Try.prog.types.size := of_decide_eq_true (by kernel_rfl)
set_option maxRecDepth 100000 in
theorem key2_law : Keyed Try.prog 74 := Keyed.of_law (deep_law_laid Try.laidOut (m := 2) (by omega) Try.rowKey Try.keyAtKey Try.wideKey)
def kl (a b : Int) : Lit := .string (keyBytes [.int .i64 a, .int .i64 b])
theorem wf_of {a : Int} (h : I64 a) : (Lit.int .i64 a).wf = true := by
  unfold I64 at h
  exact WalkArith.wf_i64 (by omega)
theorem keyOf_pair {a b : Int} (ha : I64 a) (hb : I64 b) : keyOf Try.prog 74 (.agg #[.int .i64 a, .int .i64 b]) = some (kl a b) := by
  have hf : (Value.agg #[.int .i64 a, .int .i64 b]).formed Try.prog 74 = true := by simp [Value.formed, Try.underlying74, Try.cellsKey]
  have hc : (Value.agg #[.int .i64 a, .int .i64 b]).cells.toList = [.int .i64 a, .int .i64 b] := rfl
  obtain ⟨m, hm⟩ := Nat.exists_eq_succ_of_ne_zero (Nat.ne_of_gt Try.sizeTypes)
  have hm : Try.prog.types.size = m + 1 := hm
  have i1 : Try.prog.keyLits (m + 1) 3 [.int .i64 a] = some [.int .i64 a] := by simp [Program.keyLits, Try.underlying3, wf_of ha]
  have i2 : Try.prog.keyLits (m + 1) 3 [.int .i64 b] = some [.int .i64 b] := by simp [Program.keyLits, Try.underlying3, wf_of hb]
  have hl : Try.prog.keyLits (m + 1 + 1) 74 [.int .i64 a, .int .i64 b] = some [.int .i64 a, .int .i64 b] := by
    rw [Program.keyLits.eq_def]
    simp only [Try.underlying74, Try.cellsKey, Try.cellsKeyInt]
    simp [List.range_succ, i1, i2]
  unfold keyOf
  rw [Try.underlying74, hm, hc, hl, Try.keyTypeKey, hf]
  rfl
theorem kl_inj {a b c d : Int} (ha : I64 a) (hb : I64 b) (hc : I64 c) (hd : I64 d) (h : kl a b = kl c d) : a = c ∧ b = d := by
  have h1 := keyOf_pair ha hb
  rw [h] at h1
  have := key2_law.inj h1 (keyOf_pair hc hd)
  simp only [Value.agg.injEq, Array.mk.injEq, List.cons.injEq, Value.int.injEq, true_and, and_true] at this
  exact this
theorem kl_key {a b : Int} (ha : I64 a) (hb : I64 b) : WideAt.IsKeyLit (kl a b) := key2_law.key (keyOf_pair ha hb)

theorem nodup_le {α : Type} : ∀ {l m : List α}, l.Pairwise (· ≠ ·) → (∀ x ∈ l, x ∈ m) → l.length ≤ m.length
  | [], _, _, _ => Nat.zero_le _
  | x :: l, m, h, hs => by
    classical
    obtain ⟨h1, h2⟩ := List.pairwise_cons.1 h
    have hx := hs x (by simp)
    have ih := nodup_le (l := l) (m := m.erase x) h2 fun y hy => (List.mem_erase_of_ne (h1 y hy).symm).2 (hs y (by simp [hy]))
    rw [List.length_erase_of_mem hx] at ih
    have : 0 < m.length := List.length_pos_of_mem hx
    simp only [List.length_cons]
    omega
/-- a map all of whose keys are among the pairs below given bounds has at most so many entries -/
theorem size_pairs {D : DataW Unit} (h : Tidy D) {p q : Nat} (hk : ∀ l, has D l = true → ∃ i S : Nat, i < p ∧ S < q ∧ l = kl i S) (hkey : ∀ es, D = .map es → ∀ e ∈ es, WideAt.IsKeyLit e.1) : size D ≤ p * q := by
  obtain ⟨es, rfl, hd⟩ := h
  have hP : (es.map (·.1)).Pairwise (· ≠ ·) := by rw [List.pairwise_map]; exact hd
  have hsub : ∀ l ∈ es.map (·.1), l ∈ (List.range p).flatMap fun i => (List.range q).map fun S : Nat => kl (i : Nat) S := by
    intro l hl
    obtain ⟨e, he, rfl⟩ := List.mem_map.1 hl
    have hh : has (.map es : DataW Unit) e.1 = true := by
      rw [has_eq, List.any_eq_true]
      exact ⟨e, he, WideAt.sameKey_self (hkey es rfl e he)⟩
    obtain ⟨i, S, hi, hS, e1⟩ := hk _ hh
    rw [List.mem_flatMap]
    exact ⟨i, List.mem_range.2 hi, List.mem_map.2 ⟨S, List.mem_range.2 hS, e1.symm⟩⟩
  have := nodup_le hP hsub
  rw [List.length_map] at this
  have hl : ∀ n, ((List.range n).flatMap fun i => (List.range q).map fun S : Nat => kl (i : Nat) S).length = n * q := by
    intro n
    induction n with
    | zero => simp
    | succ n ih => rw [List.range_succ, List.flatMap_append, List.length_append, ih]; simp [Nat.succ_mul]
  rw [hl] at this
  exact this
/-- the entries' number is the datum's -/
theorem ownsMap_size {w : World} {P : Program} {k : TypeId} {R : Value → Option (DataW Unit × List MemPlace)} {b n : Nat} {D : DataW Unit} (h : w.ownsMap P k R b n D) : w.ownsMap P k R b (size D) D := by
  obtain ⟨es, clock, h1, h2, _, rfl⟩ := h
  exact ⟨es, clock, h1, h2, by simp [size, length_sorted], rfl⟩
end Go.Proofs.Ytkdbgobhgnjoaaa
