/-
  No cell of these rows narrows 'for every input' (looked for: loops, veiled, ifaces, maps, wideKeys, modest, calm, conditions, laid).
  DERIVED. THE GIVEN ROWS OF THIS SEAT. 4 by the template 'for every input the law returns true; each argument reads behind the call as it read before'; 0 by the template 'total and deterministic' (their statements: YtkdbgobhgnjoaabTotals.lean).
  GIVEN WITH THE SEED: the statements are not yours to turn. If you find one false, say at which input.
  Laid BY PROGRAM, IN A SANDBOX (cutbox-rows.mjs): the forced cells as the released guide's own fill.sh prints them over the translation bd3b2787d1a1286f… (all of the seat's roots in one cut). By AI agents, Wed Nov 11 2026. No macro, syntax, notation, axiom, sorry.
-/
import Derived.Test.YtkdbgobhgnjoaabChecked
import GoSem.Claim
import GoSem.ClaimJoined
import GoSem.ClaimMapViews
import Derived.JoinedTies
import Derived.KernelRfl
namespace Go.Proofs.Ytkdbgobhgnjoaab
/- THE CELL 'sum', in the pinned program and in every row, IS THE sha256 OF THE DUMP (.gsa) THAT YtkdbgobhgnjoaabProg.lean LOADS. Nothing in Lean hashes anything: it is a label: what it is worth is what the hold of that sum in a sandbox is worth. -/
noncomputable def Try.pinned : Pinned := { name := "ytkdbgobhgnjoaab", sum := "bd3b2787d1a1286fcd86796ee760b3554617c82a2627b98978d2950a9120b1c4", checked := Try.checked }
namespace Rows
def none {H : Type} : Left H := { results := [], args := [] }

/-- 'laws.FnWorst': WHATEVER THE INPUT: true; the input reads as it did. -/
def fnWorstSpec : ChangeSpec := { name := "fnWorst", fn := fun _ => fun
  | [d] => { results := [.lit (.bool true)], args := [d] }
  | _ => none }
def fnWorstRow : OpenClaim := { program := "ytkdbgobhgnjoaab", sum := "bd3b2787d1a1286fcd86796ee760b3554617c82a2627b98978d2950a9120b1c4", func := "loop.example/g01087/laws.FnWorst", spec := "fnWorst", unfollowed := true, recurses := true, apart := false }
def FnWorstSaid : Prop := fnWorstRow.holds Try.pinned (OpenSpec.ofChange fnWorstSpec)

/-- ITS FALSE NEIGHBOUR: 'it returns false'. Refute it at one input. -/
def fnWorstWrong : ChangeSpec := { name := "fnWorst", fn := fun _ => fun
  | [d] => { results := [.lit (.bool false)], args := [d] }
  | _ => none }
def FnWorstWrongFalsely : Prop := fnWorstRow.holds Try.pinned (OpenSpec.ofChange fnWorstWrong)

/-- 'laws.FnOffsets': WHATEVER THE INPUT: true; the input reads as it did. -/
def fnOffsetsSpec : ChangeSpec := { name := "fnOffsets", fn := fun _ => fun
  | [d] => { results := [.lit (.bool true)], args := [d] }
  | _ => none }
def fnOffsetsRow : OpenClaim := { program := "ytkdbgobhgnjoaab", sum := "bd3b2787d1a1286fcd86796ee760b3554617c82a2627b98978d2950a9120b1c4", func := "loop.example/g01087/laws.FnOffsets", spec := "fnOffsets", unfollowed := true, recurses := true, apart := false }
def FnOffsetsSaid : Prop := fnOffsetsRow.holds Try.pinned (OpenSpec.ofChange fnOffsetsSpec)

/-- ITS FALSE NEIGHBOUR: 'it returns false'. Refute it at one input. -/
def fnOffsetsWrong : ChangeSpec := { name := "fnOffsets", fn := fun _ => fun
  | [d] => { results := [.lit (.bool false)], args := [d] }
  | _ => none }
def FnOffsetsWrongFalsely : Prop := fnOffsetsRow.holds Try.pinned (OpenSpec.ofChange fnOffsetsWrong)

/-- 'laws.FnSchedules': WHATEVER THE INPUT: true; the input reads as it did. -/
def fnSchedulesSpec : ChangeSpec := { name := "fnSchedules", fn := fun _ => fun
  | [d] => { results := [.lit (.bool true)], args := [d] }
  | _ => none }
def fnSchedulesRow : OpenClaim := { program := "ytkdbgobhgnjoaab", sum := "bd3b2787d1a1286fcd86796ee760b3554617c82a2627b98978d2950a9120b1c4", func := "loop.example/g01087/laws.FnSchedules", spec := "fnSchedules", unfollowed := true, recurses := true, apart := false }
def FnSchedulesSaid : Prop := fnSchedulesRow.holds Try.pinned (OpenSpec.ofChange fnSchedulesSpec)

/-- ITS FALSE NEIGHBOUR: 'it returns false'. Refute it at one input. -/
def fnSchedulesWrong : ChangeSpec := { name := "fnSchedules", fn := fun _ => fun
  | [d] => { results := [.lit (.bool false)], args := [d] }
  | _ => none }
def FnSchedulesWrongFalsely : Prop := fnSchedulesRow.holds Try.pinned (OpenSpec.ofChange fnSchedulesWrong)

/-- 'laws.FnAlgorithms': WHATEVER THE INPUT: true; the input reads as it did. -/
def fnAlgorithmsSpec : ChangeSpec := { name := "fnAlgorithms", fn := fun _ => fun
  | [d] => { results := [.lit (.bool true)], args := [d] }
  | _ => none }
def fnAlgorithmsRow : OpenClaim := { program := "ytkdbgobhgnjoaab", sum := "bd3b2787d1a1286fcd86796ee760b3554617c82a2627b98978d2950a9120b1c4", func := "loop.example/g01087/laws.FnAlgorithms", spec := "fnAlgorithms", unfollowed := true, recurses := true, apart := false }
def FnAlgorithmsSaid : Prop := fnAlgorithmsRow.holds Try.pinned (OpenSpec.ofChange fnAlgorithmsSpec)

/-- ITS FALSE NEIGHBOUR: 'it returns false'. Refute it at one input. -/
def fnAlgorithmsWrong : ChangeSpec := { name := "fnAlgorithms", fn := fun _ => fun
  | [d] => { results := [.lit (.bool false)], args := [d] }
  | _ => none }
def FnAlgorithmsWrongFalsely : Prop := fnAlgorithmsRow.holds Try.pinned (OpenSpec.ofChange fnAlgorithmsWrong)

/- THE SECOND FORM. 'bulk': how many values and letters a reading holds, each counted each time it is reached (what is shared counts as often as it is met; a slice's spare places count too). A statement '..UptoSaid' is the law's where the arguments, and the package variables that the reading takes, are together of bulk at most 1048576: NARROWER than '..Said'. Prove '..Said' where nothing that the law and all that it calls make is longer than what came in: it says more and counts as full. Else prove '..UptoSaid'. A law counts once. -/
mutual
def uptoBulk {H : Type} : DataW H → Nat
  | .lit (.string bytes) => bytes.length + 1
  | .lit _ => 1
  | .nil => 1
  | .ptr d => uptoBulk d + 1
  | .slice elems spare => uptoBulkAll elems + uptoBulkAll spare + 1
  | .agg parts => uptoBulkAll parts + 1
  | .iface _ d => uptoBulk d + 1
  | .map entries => uptoBulkEntries entries + 1
  | .held _ => 1
def uptoBulkAll {H : Type} : List (DataW H) → Nat
  | [] => 0
  | d :: r => uptoBulk d + uptoBulkAll r
def uptoBulkEntries {H : Type} : List (Lit × DataW H) → Nat
  | [] => 0
  | x :: r => uptoBulkEntry x + uptoBulkEntries r
def uptoBulkEntry {H : Type} : Lit × DataW H → Nat
  | (.string bytes, d) => bytes.length + uptoBulk d + 1
  | (_, d) => uptoBulk d + 1
 end
def uptoSmall : (H : Type) → List (DataW H) → Bool := fun _ ds => decide (uptoBulkAll ds ≤ 1048576)
def OpenSpec.upto (s : _root_.Go.ChangeSpec) : _root_.Go.OpenSpec := { _root_.Go.OpenSpec.ofChange s with cond := some uptoSmall }

/-- 'laws.FnWorst', WHERE WHAT IT READS IS OF BULK AT MOST 1048576: true; the input reads as it did. -/
def fnWorstUptoRow : OpenClaim := { program := "ytkdbgobhgnjoaab", sum := "bd3b2787d1a1286fcd86796ee760b3554617c82a2627b98978d2950a9120b1c4", func := "loop.example/g01087/laws.FnWorst", spec := "fnWorst", unfollowed := true, recurses := true, apart := false, narrowed := true }
def FnWorstUptoSaid : Prop := fnWorstUptoRow.holds Try.pinned (OpenSpec.upto fnWorstSpec)

/-- 'laws.FnOffsets', WHERE WHAT IT READS IS OF BULK AT MOST 1048576: true; the input reads as it did. -/
def fnOffsetsUptoRow : OpenClaim := { program := "ytkdbgobhgnjoaab", sum := "bd3b2787d1a1286fcd86796ee760b3554617c82a2627b98978d2950a9120b1c4", func := "loop.example/g01087/laws.FnOffsets", spec := "fnOffsets", unfollowed := true, recurses := true, apart := false, narrowed := true }
def FnOffsetsUptoSaid : Prop := fnOffsetsUptoRow.holds Try.pinned (OpenSpec.upto fnOffsetsSpec)

/-- 'laws.FnSchedules', WHERE WHAT IT READS IS OF BULK AT MOST 1048576: true; the input reads as it did. -/
def fnSchedulesUptoRow : OpenClaim := { program := "ytkdbgobhgnjoaab", sum := "bd3b2787d1a1286fcd86796ee760b3554617c82a2627b98978d2950a9120b1c4", func := "loop.example/g01087/laws.FnSchedules", spec := "fnSchedules", unfollowed := true, recurses := true, apart := false, narrowed := true }
def FnSchedulesUptoSaid : Prop := fnSchedulesUptoRow.holds Try.pinned (OpenSpec.upto fnSchedulesSpec)

/-- 'laws.FnAlgorithms', WHERE WHAT IT READS IS OF BULK AT MOST 1048576: true; the input reads as it did. -/
def fnAlgorithmsUptoRow : OpenClaim := { program := "ytkdbgobhgnjoaab", sum := "bd3b2787d1a1286fcd86796ee760b3554617c82a2627b98978d2950a9120b1c4", func := "loop.example/g01087/laws.FnAlgorithms", spec := "fnAlgorithms", unfollowed := true, recurses := true, apart := false, narrowed := true }
def FnAlgorithmsUptoSaid : Prop := fnAlgorithmsUptoRow.holds Try.pinned (OpenSpec.upto fnAlgorithmsSpec)

end Rows
end Go.Proofs.Ytkdbgobhgnjoaab
