/-
  No cell of these rows narrows 'for every input' (looked for: loops, veiled, ifaces, maps, wideKeys, modest, calm, conditions, laid).
  DERIVED. THE GIVEN ROWS OF THIS SEAT. 15 by the template 'for every input the law returns true; each argument reads behind the call as it read before'; 0 by the template 'total and deterministic' (their statements: YtbclgdajgaljkaaTotals.lean).
  GIVEN WITH THE SEED: the statements are not yours to turn. If you find one false, say at which input.
  Laid BY PROGRAM, IN A SANDBOX (cutbox-rows.mjs): the forced cells as the released guide's own fill.sh prints them over the translation d5e73b2864d919d2… (all of the seat's roots in one cut). By AI agents, Wed Nov 11 2026. No macro, syntax, notation, axiom, sorry.
-/
import Derived.Test.YtbclgdajgaljkaaChecked
import GoSem.Claim
import GoSem.ClaimJoined
import GoSem.ClaimMapViews
import Derived.JoinedTies
import Derived.KernelRfl
namespace Go.Proofs.Ytbclgdajgaljkaa
/- THE CELL 'sum', in the pinned program and in every row, IS THE sha256 OF THE DUMP (.gsa) THAT YtbclgdajgaljkaaProg.lean LOADS. Nothing in Lean hashes anything: it is a label: what it is worth is what the hold of that sum in a sandbox is worth. -/
noncomputable def Try.pinned : Pinned := { name := "ytbclgdajgaljkaa", sum := "d5e73b2864d919d2f828aee6a38e818472da0eac5bfa8fd9c21730f3b3344ede", checked := Try.checked }
namespace Rows
def none {H : Type} : Left H := { results := [], args := [] }

/-- 'laws.FnExactIsProblem': WHATEVER THE INPUT: true; the input reads as it did. -/
def fnExactIsProblemSpec : ChangeSpec := { name := "fnExactIsProblem", fn := fun _ => fun
  | [d] => { results := [.lit (.bool true)], args := [d] }
  | _ => none }
def fnExactIsProblemRow : OpenClaim := { program := "ytbclgdajgaljkaa", sum := "d5e73b2864d919d2f828aee6a38e818472da0eac5bfa8fd9c21730f3b3344ede", func := "loop.example/g01087/laws.FnExactIsProblem", spec := "fnExactIsProblem", unfollowed := true, recurses := true, apart := false }
def FnExactIsProblemSaid : Prop := fnExactIsProblemRow.holds Try.pinned (OpenSpec.ofChange fnExactIsProblemSpec)

/-- ITS FALSE NEIGHBOUR: 'it returns false'. Refute it at one input. -/
def fnExactIsProblemWrong : ChangeSpec := { name := "fnExactIsProblem", fn := fun _ => fun
  | [d] => { results := [.lit (.bool false)], args := [d] }
  | _ => none }
def FnExactIsProblemWrongFalsely : Prop := fnExactIsProblemRow.holds Try.pinned (OpenSpec.ofChange fnExactIsProblemWrong)

/-- 'laws.FnExactCountAlgorithms': WHATEVER THE INPUT: true; the input reads as it did. -/
def fnExactCountAlgorithmsSpec : ChangeSpec := { name := "fnExactCountAlgorithms", fn := fun _ => fun
  | [d] => { results := [.lit (.bool true)], args := [d] }
  | _ => none }
def fnExactCountAlgorithmsRow : OpenClaim := { program := "ytbclgdajgaljkaa", sum := "d5e73b2864d919d2f828aee6a38e818472da0eac5bfa8fd9c21730f3b3344ede", func := "loop.example/g01087/laws.FnExactCountAlgorithms", spec := "fnExactCountAlgorithms", unfollowed := true, recurses := true, apart := false }
def FnExactCountAlgorithmsSaid : Prop := fnExactCountAlgorithmsRow.holds Try.pinned (OpenSpec.ofChange fnExactCountAlgorithmsSpec)

/-- ITS FALSE NEIGHBOUR: 'it returns false'. Refute it at one input. -/
def fnExactCountAlgorithmsWrong : ChangeSpec := { name := "fnExactCountAlgorithms", fn := fun _ => fun
  | [d] => { results := [.lit (.bool false)], args := [d] }
  | _ => none }
def FnExactCountAlgorithmsWrongFalsely : Prop := fnExactCountAlgorithmsRow.holds Try.pinned (OpenSpec.ofChange fnExactCountAlgorithmsWrong)

/-- 'laws.FnExactIsAlgorithm': WHATEVER THE INPUT: true; the input reads as it did. -/
def fnExactIsAlgorithmSpec : ChangeSpec := { name := "fnExactIsAlgorithm", fn := fun _ => fun
  | [d1, d2] => { results := [.lit (.bool true)], args := [d1, d2] }
  | _ => none }
def fnExactIsAlgorithmRow : OpenClaim := { program := "ytbclgdajgaljkaa", sum := "d5e73b2864d919d2f828aee6a38e818472da0eac5bfa8fd9c21730f3b3344ede", func := "loop.example/g01087/laws.FnExactIsAlgorithm", spec := "fnExactIsAlgorithm", unfollowed := true, recurses := true, apart := false }
def FnExactIsAlgorithmSaid : Prop := fnExactIsAlgorithmRow.holds Try.pinned (OpenSpec.ofChange fnExactIsAlgorithmSpec)

/-- ITS FALSE NEIGHBOUR: 'it returns false'. Refute it at one input. -/
def fnExactIsAlgorithmWrong : ChangeSpec := { name := "fnExactIsAlgorithm", fn := fun _ => fun
  | [d1, d2] => { results := [.lit (.bool false)], args := [d1, d2] }
  | _ => none }
def FnExactIsAlgorithmWrongFalsely : Prop := fnExactIsAlgorithmRow.holds Try.pinned (OpenSpec.ofChange fnExactIsAlgorithmWrong)

/-- 'laws.FnExactScheduleCost': WHATEVER THE INPUT: true; the input reads as it did. -/
def fnExactScheduleCostSpec : ChangeSpec := { name := "fnExactScheduleCost", fn := fun _ => fun
  | [d1, d2, d3, d4] => { results := [.lit (.bool true)], args := [d1, d2, d3, d4] }
  | _ => none }
def fnExactScheduleCostRow : OpenClaim := { program := "ytbclgdajgaljkaa", sum := "d5e73b2864d919d2f828aee6a38e818472da0eac5bfa8fd9c21730f3b3344ede", func := "loop.example/g01087/laws.FnExactScheduleCost", spec := "fnExactScheduleCost", unfollowed := true, recurses := true, apart := false }
def FnExactScheduleCostSaid : Prop := fnExactScheduleCostRow.holds Try.pinned (OpenSpec.ofChange fnExactScheduleCostSpec)

/-- ITS FALSE NEIGHBOUR: 'it returns false'. Refute it at one input. -/
def fnExactScheduleCostWrong : ChangeSpec := { name := "fnExactScheduleCost", fn := fun _ => fun
  | [d1, d2, d3, d4] => { results := [.lit (.bool false)], args := [d1, d2, d3, d4] }
  | _ => none }
def FnExactScheduleCostWrongFalsely : Prop := fnExactScheduleCostRow.holds Try.pinned (OpenSpec.ofChange fnExactScheduleCostWrong)

/-- 'laws.FnExactAlgorithmCost': WHATEVER THE INPUT: true; the input reads as it did. -/
def fnExactAlgorithmCostSpec : ChangeSpec := { name := "fnExactAlgorithmCost", fn := fun _ => fun
  | [d1, d2, d3, d4] => { results := [.lit (.bool true)], args := [d1, d2, d3, d4] }
  | _ => none }
def fnExactAlgorithmCostRow : OpenClaim := { program := "ytbclgdajgaljkaa", sum := "d5e73b2864d919d2f828aee6a38e818472da0eac5bfa8fd9c21730f3b3344ede", func := "loop.example/g01087/laws.FnExactAlgorithmCost", spec := "fnExactAlgorithmCost", unfollowed := true, recurses := true, apart := false }
def FnExactAlgorithmCostSaid : Prop := fnExactAlgorithmCostRow.holds Try.pinned (OpenSpec.ofChange fnExactAlgorithmCostSpec)

/-- ITS FALSE NEIGHBOUR: 'it returns false'. Refute it at one input. -/
def fnExactAlgorithmCostWrong : ChangeSpec := { name := "fnExactAlgorithmCost", fn := fun _ => fun
  | [d1, d2, d3, d4] => { results := [.lit (.bool false)], args := [d1, d2, d3, d4] }
  | _ => none }
def FnExactAlgorithmCostWrongFalsely : Prop := fnExactAlgorithmCostRow.holds Try.pinned (OpenSpec.ofChange fnExactAlgorithmCostWrong)

/-- 'laws.FnExactGreedyAlgorithm': WHATEVER THE INPUT: true; the input reads as it did. -/
def fnExactGreedyAlgorithmSpec : ChangeSpec := { name := "fnExactGreedyAlgorithm", fn := fun _ => fun
  | [d] => { results := [.lit (.bool true)], args := [d] }
  | _ => none }
def fnExactGreedyAlgorithmRow : OpenClaim := { program := "ytbclgdajgaljkaa", sum := "d5e73b2864d919d2f828aee6a38e818472da0eac5bfa8fd9c21730f3b3344ede", func := "loop.example/g01087/laws.FnExactGreedyAlgorithm", spec := "fnExactGreedyAlgorithm", unfollowed := true, recurses := true, apart := false }
def FnExactGreedyAlgorithmSaid : Prop := fnExactGreedyAlgorithmRow.holds Try.pinned (OpenSpec.ofChange fnExactGreedyAlgorithmSpec)

/-- ITS FALSE NEIGHBOUR: 'it returns false'. Refute it at one input. -/
def fnExactGreedyAlgorithmWrong : ChangeSpec := { name := "fnExactGreedyAlgorithm", fn := fun _ => fun
  | [d] => { results := [.lit (.bool false)], args := [d] }
  | _ => none }
def FnExactGreedyAlgorithmWrongFalsely : Prop := fnExactGreedyAlgorithmRow.holds Try.pinned (OpenSpec.ofChange fnExactGreedyAlgorithmWrong)

/-- 'laws.FnExactAlgorithmStates': WHATEVER THE INPUT: true; the input reads as it did. -/
def fnExactAlgorithmStatesSpec : ChangeSpec := { name := "fnExactAlgorithmStates", fn := fun _ => fun
  | [d1, d2, d3, d4] => { results := [.lit (.bool true)], args := [d1, d2, d3, d4] }
  | _ => none }
def fnExactAlgorithmStatesRow : OpenClaim := { program := "ytbclgdajgaljkaa", sum := "d5e73b2864d919d2f828aee6a38e818472da0eac5bfa8fd9c21730f3b3344ede", func := "loop.example/g01087/laws.FnExactAlgorithmStates", spec := "fnExactAlgorithmStates", unfollowed := true, recurses := true, apart := false }
def FnExactAlgorithmStatesSaid : Prop := fnExactAlgorithmStatesRow.holds Try.pinned (OpenSpec.ofChange fnExactAlgorithmStatesSpec)

/-- ITS FALSE NEIGHBOUR: 'it returns false'. Refute it at one input. -/
def fnExactAlgorithmStatesWrong : ChangeSpec := { name := "fnExactAlgorithmStates", fn := fun _ => fun
  | [d1, d2, d3, d4] => { results := [.lit (.bool false)], args := [d1, d2, d3, d4] }
  | _ => none }
def FnExactAlgorithmStatesWrongFalsely : Prop := fnExactAlgorithmStatesRow.holds Try.pinned (OpenSpec.ofChange fnExactAlgorithmStatesWrong)

/-- 'laws.FnExactLazyAlgorithm': WHATEVER THE INPUT: true; the input reads as it did. -/
def fnExactLazyAlgorithmSpec : ChangeSpec := { name := "fnExactLazyAlgorithm", fn := fun _ => fun
  | [d] => { results := [.lit (.bool true)], args := [d] }
  | _ => none }
def fnExactLazyAlgorithmRow : OpenClaim := { program := "ytbclgdajgaljkaa", sum := "d5e73b2864d919d2f828aee6a38e818472da0eac5bfa8fd9c21730f3b3344ede", func := "loop.example/g01087/laws.FnExactLazyAlgorithm", spec := "fnExactLazyAlgorithm", unfollowed := true, recurses := true, apart := false }
def FnExactLazyAlgorithmSaid : Prop := fnExactLazyAlgorithmRow.holds Try.pinned (OpenSpec.ofChange fnExactLazyAlgorithmSpec)

/-- ITS FALSE NEIGHBOUR: 'it returns false'. Refute it at one input. -/
def fnExactLazyAlgorithmWrong : ChangeSpec := { name := "fnExactLazyAlgorithm", fn := fun _ => fun
  | [d] => { results := [.lit (.bool false)], args := [d] }
  | _ => none }
def FnExactLazyAlgorithmWrongFalsely : Prop := fnExactLazyAlgorithmRow.holds Try.pinned (OpenSpec.ofChange fnExactLazyAlgorithmWrong)

/-- 'laws.FnExactNextWork': WHATEVER THE INPUT: true; the input reads as it did. -/
def fnExactNextWorkSpec : ChangeSpec := { name := "fnExactNextWork", fn := fun _ => fun
  | [d1, d2, d3] => { results := [.lit (.bool true)], args := [d1, d2, d3] }
  | _ => none }
def fnExactNextWorkRow : OpenClaim := { program := "ytbclgdajgaljkaa", sum := "d5e73b2864d919d2f828aee6a38e818472da0eac5bfa8fd9c21730f3b3344ede", func := "loop.example/g01087/laws.FnExactNextWork", spec := "fnExactNextWork", unfollowed := true, recurses := true, apart := false }
def FnExactNextWorkSaid : Prop := fnExactNextWorkRow.holds Try.pinned (OpenSpec.ofChange fnExactNextWorkSpec)

/-- ITS FALSE NEIGHBOUR: 'it returns false'. Refute it at one input. -/
def fnExactNextWorkWrong : ChangeSpec := { name := "fnExactNextWork", fn := fun _ => fun
  | [d1, d2, d3] => { results := [.lit (.bool false)], args := [d1, d2, d3] }
  | _ => none }
def FnExactNextWorkWrongFalsely : Prop := fnExactNextWorkRow.holds Try.pinned (OpenSpec.ofChange fnExactNextWorkWrong)

/-- 'laws.FnExactLeastCost': WHATEVER THE INPUT: true; the input reads as it did. -/
def fnExactLeastCostSpec : ChangeSpec := { name := "fnExactLeastCost", fn := fun _ => fun
  | [d1, d2, d3] => { results := [.lit (.bool true)], args := [d1, d2, d3] }
  | _ => none }
def fnExactLeastCostRow : OpenClaim := { program := "ytbclgdajgaljkaa", sum := "d5e73b2864d919d2f828aee6a38e818472da0eac5bfa8fd9c21730f3b3344ede", func := "loop.example/g01087/laws.FnExactLeastCost", spec := "fnExactLeastCost", unfollowed := true, recurses := true, apart := false }
def FnExactLeastCostSaid : Prop := fnExactLeastCostRow.holds Try.pinned (OpenSpec.ofChange fnExactLeastCostSpec)

/-- ITS FALSE NEIGHBOUR: 'it returns false'. Refute it at one input. -/
def fnExactLeastCostWrong : ChangeSpec := { name := "fnExactLeastCost", fn := fun _ => fun
  | [d1, d2, d3] => { results := [.lit (.bool false)], args := [d1, d2, d3] }
  | _ => none }
def FnExactLeastCostWrongFalsely : Prop := fnExactLeastCostRow.holds Try.pinned (OpenSpec.ofChange fnExactLeastCostWrong)

/-- 'laws.FnExactWorkFunction': WHATEVER THE INPUT: true; the input reads as it did. -/
def fnExactWorkFunctionSpec : ChangeSpec := { name := "fnExactWorkFunction", fn := fun _ => fun
  | [d1, d2, d3] => { results := [.lit (.bool true)], args := [d1, d2, d3] }
  | _ => none }
def fnExactWorkFunctionRow : OpenClaim := { program := "ytbclgdajgaljkaa", sum := "d5e73b2864d919d2f828aee6a38e818472da0eac5bfa8fd9c21730f3b3344ede", func := "loop.example/g01087/laws.FnExactWorkFunction", spec := "fnExactWorkFunction", unfollowed := true, recurses := true, apart := false }
def FnExactWorkFunctionSaid : Prop := fnExactWorkFunctionRow.holds Try.pinned (OpenSpec.ofChange fnExactWorkFunctionSpec)

/-- ITS FALSE NEIGHBOUR: 'it returns false'. Refute it at one input. -/
def fnExactWorkFunctionWrong : ChangeSpec := { name := "fnExactWorkFunction", fn := fun _ => fun
  | [d1, d2, d3] => { results := [.lit (.bool false)], args := [d1, d2, d3] }
  | _ => none }
def FnExactWorkFunctionWrongFalsely : Prop := fnExactWorkFunctionRow.holds Try.pinned (OpenSpec.ofChange fnExactWorkFunctionWrong)

/-- 'laws.FnExactBestSchedule': WHATEVER THE INPUT: true; the input reads as it did. -/
def fnExactBestScheduleSpec : ChangeSpec := { name := "fnExactBestSchedule", fn := fun _ => fun
  | [d1, d2, d3] => { results := [.lit (.bool true)], args := [d1, d2, d3] }
  | _ => none }
def fnExactBestScheduleRow : OpenClaim := { program := "ytbclgdajgaljkaa", sum := "d5e73b2864d919d2f828aee6a38e818472da0eac5bfa8fd9c21730f3b3344ede", func := "loop.example/g01087/laws.FnExactBestSchedule", spec := "fnExactBestSchedule", unfollowed := true, recurses := true, apart := false }
def FnExactBestScheduleSaid : Prop := fnExactBestScheduleRow.holds Try.pinned (OpenSpec.ofChange fnExactBestScheduleSpec)

/-- ITS FALSE NEIGHBOUR: 'it returns false'. Refute it at one input. -/
def fnExactBestScheduleWrong : ChangeSpec := { name := "fnExactBestSchedule", fn := fun _ => fun
  | [d1, d2, d3] => { results := [.lit (.bool false)], args := [d1, d2, d3] }
  | _ => none }
def FnExactBestScheduleWrongFalsely : Prop := fnExactBestScheduleRow.holds Try.pinned (OpenSpec.ofChange fnExactBestScheduleWrong)

/-- 'laws.FnExactOffsetSteps': WHATEVER THE INPUT: true; the input reads as it did. -/
def fnExactOffsetStepsSpec : ChangeSpec := { name := "fnExactOffsetSteps", fn := fun _ => fun
  | [d1, d2] => { results := [.lit (.bool true)], args := [d1, d2] }
  | _ => none }
def fnExactOffsetStepsRow : OpenClaim := { program := "ytbclgdajgaljkaa", sum := "d5e73b2864d919d2f828aee6a38e818472da0eac5bfa8fd9c21730f3b3344ede", func := "loop.example/g01087/laws.FnExactOffsetSteps", spec := "fnExactOffsetSteps", unfollowed := true, recurses := true, apart := false }
def FnExactOffsetStepsSaid : Prop := fnExactOffsetStepsRow.holds Try.pinned (OpenSpec.ofChange fnExactOffsetStepsSpec)

/-- ITS FALSE NEIGHBOUR: 'it returns false'. Refute it at one input. -/
def fnExactOffsetStepsWrong : ChangeSpec := { name := "fnExactOffsetSteps", fn := fun _ => fun
  | [d1, d2] => { results := [.lit (.bool false)], args := [d1, d2] }
  | _ => none }
def FnExactOffsetStepsWrongFalsely : Prop := fnExactOffsetStepsRow.holds Try.pinned (OpenSpec.ofChange fnExactOffsetStepsWrong)

/-- 'laws.FnExactOffsetsOf': WHATEVER THE INPUT: true; the input reads as it did. -/
def fnExactOffsetsOfSpec : ChangeSpec := { name := "fnExactOffsetsOf", fn := fun _ => fun
  | [d1, d2] => { results := [.lit (.bool true)], args := [d1, d2] }
  | _ => none }
def fnExactOffsetsOfRow : OpenClaim := { program := "ytbclgdajgaljkaa", sum := "d5e73b2864d919d2f828aee6a38e818472da0eac5bfa8fd9c21730f3b3344ede", func := "loop.example/g01087/laws.FnExactOffsetsOf", spec := "fnExactOffsetsOf", unfollowed := true, recurses := true, apart := false }
def FnExactOffsetsOfSaid : Prop := fnExactOffsetsOfRow.holds Try.pinned (OpenSpec.ofChange fnExactOffsetsOfSpec)

/-- ITS FALSE NEIGHBOUR: 'it returns false'. Refute it at one input. -/
def fnExactOffsetsOfWrong : ChangeSpec := { name := "fnExactOffsetsOf", fn := fun _ => fun
  | [d1, d2] => { results := [.lit (.bool false)], args := [d1, d2] }
  | _ => none }
def FnExactOffsetsOfWrongFalsely : Prop := fnExactOffsetsOfRow.holds Try.pinned (OpenSpec.ofChange fnExactOffsetsOfWrong)

/-- 'laws.FnExactWorstSequence': WHATEVER THE INPUT: true; the input reads as it did. -/
def fnExactWorstSequenceSpec : ChangeSpec := { name := "fnExactWorstSequence", fn := fun _ => fun
  | [d1, d2, d3, d4] => { results := [.lit (.bool true)], args := [d1, d2, d3, d4] }
  | _ => none }
def fnExactWorstSequenceRow : OpenClaim := { program := "ytbclgdajgaljkaa", sum := "d5e73b2864d919d2f828aee6a38e818472da0eac5bfa8fd9c21730f3b3344ede", func := "loop.example/g01087/laws.FnExactWorstSequence", spec := "fnExactWorstSequence", unfollowed := true, recurses := true, apart := false }
def FnExactWorstSequenceSaid : Prop := fnExactWorstSequenceRow.holds Try.pinned (OpenSpec.ofChange fnExactWorstSequenceSpec)

/-- ITS FALSE NEIGHBOUR: 'it returns false'. Refute it at one input. -/
def fnExactWorstSequenceWrong : ChangeSpec := { name := "fnExactWorstSequence", fn := fun _ => fun
  | [d1, d2, d3, d4] => { results := [.lit (.bool false)], args := [d1, d2, d3, d4] }
  | _ => none }
def FnExactWorstSequenceWrongFalsely : Prop := fnExactWorstSequenceRow.holds Try.pinned (OpenSpec.ofChange fnExactWorstSequenceWrong)

/- THE SECOND FORM. 'bulk': how many values and letters a reading holds, each counted each time it is reached (what is shared counts as often as it is met; a slice's spare places count too). A statement '..UptoSaid' is the law's where the arguments, and the package variables that the reading takes, are together of bulk at most 1048576: NARROWER than '..Said'. Prove '..Said' where nothing that the law and all that it calls make is longer than what came in: it says more and counts as full. Else prove '..UptoSaid'. A law counts once. -/
mutual
def uptoBulk {H : Type} : DataW H → Nat
  | .lit (.string bytes) => bytes.length + 1
  | .lit _ => 1
  | .nil => 1
  | .ptr d => uptoBulk d + 1
  | .slice elems spare => uptoBulkAll elems + uptoBulkAll spare + 1
  | .agg parts => uptoBulkAll parts + 1
  | .iface _ d => uptoBulk d + 1
  | .map entries => uptoBulkEntries entries + 1
  | .held _ => 1
def uptoBulkAll {H : Type} : List (DataW H) → Nat
  | [] => 0
  | d :: r => uptoBulk d + uptoBulkAll r
def uptoBulkEntries {H : Type} : List (Lit × DataW H) → Nat
  | [] => 0
  | x :: r => uptoBulkEntry x + uptoBulkEntries r
def uptoBulkEntry {H : Type} : Lit × DataW H → Nat
  | (.string bytes, d) => bytes.length + uptoBulk d + 1
  | (_, d) => uptoBulk d + 1
 end
def uptoSmall : (H : Type) → List (DataW H) → Bool := fun _ ds => decide (uptoBulkAll ds ≤ 1048576)
def OpenSpec.upto (s : _root_.Go.ChangeSpec) : _root_.Go.OpenSpec := { _root_.Go.OpenSpec.ofChange s with cond := some uptoSmall }

/-- 'laws.FnExactIsProblem', WHERE WHAT IT READS IS OF BULK AT MOST 1048576: true; the input reads as it did. -/
def fnExactIsProblemUptoRow : OpenClaim := { program := "ytbclgdajgaljkaa", sum := "d5e73b2864d919d2f828aee6a38e818472da0eac5bfa8fd9c21730f3b3344ede", func := "loop.example/g01087/laws.FnExactIsProblem", spec := "fnExactIsProblem", unfollowed := true, recurses := true, apart := false, narrowed := true }
def FnExactIsProblemUptoSaid : Prop := fnExactIsProblemUptoRow.holds Try.pinned (OpenSpec.upto fnExactIsProblemSpec)

/-- 'laws.FnExactCountAlgorithms', WHERE WHAT IT READS IS OF BULK AT MOST 1048576: true; the input reads as it did. -/
def fnExactCountAlgorithmsUptoRow : OpenClaim := { program := "ytbclgdajgaljkaa", sum := "d5e73b2864d919d2f828aee6a38e818472da0eac5bfa8fd9c21730f3b3344ede", func := "loop.example/g01087/laws.FnExactCountAlgorithms", spec := "fnExactCountAlgorithms", unfollowed := true, recurses := true, apart := false, narrowed := true }
def FnExactCountAlgorithmsUptoSaid : Prop := fnExactCountAlgorithmsUptoRow.holds Try.pinned (OpenSpec.upto fnExactCountAlgorithmsSpec)

/-- 'laws.FnExactIsAlgorithm', WHERE WHAT IT READS IS OF BULK AT MOST 1048576: true; the input reads as it did. -/
def fnExactIsAlgorithmUptoRow : OpenClaim := { program := "ytbclgdajgaljkaa", sum := "d5e73b2864d919d2f828aee6a38e818472da0eac5bfa8fd9c21730f3b3344ede", func := "loop.example/g01087/laws.FnExactIsAlgorithm", spec := "fnExactIsAlgorithm", unfollowed := true, recurses := true, apart := false, narrowed := true }
def FnExactIsAlgorithmUptoSaid : Prop := fnExactIsAlgorithmUptoRow.holds Try.pinned (OpenSpec.upto fnExactIsAlgorithmSpec)

/-- 'laws.FnExactScheduleCost', WHERE WHAT IT READS IS OF BULK AT MOST 1048576: true; the input reads as it did. -/
def fnExactScheduleCostUptoRow : OpenClaim := { program := "ytbclgdajgaljkaa", sum := "d5e73b2864d919d2f828aee6a38e818472da0eac5bfa8fd9c21730f3b3344ede", func := "loop.example/g01087/laws.FnExactScheduleCost", spec := "fnExactScheduleCost", unfollowed := true, recurses := true, apart := false, narrowed := true }
def FnExactScheduleCostUptoSaid : Prop := fnExactScheduleCostUptoRow.holds Try.pinned (OpenSpec.upto fnExactScheduleCostSpec)

/-- 'laws.FnExactAlgorithmCost', WHERE WHAT IT READS IS OF BULK AT MOST 1048576: true; the input reads as it did. -/
def fnExactAlgorithmCostUptoRow : OpenClaim := { program := "ytbclgdajgaljkaa", sum := "d5e73b2864d919d2f828aee6a38e818472da0eac5bfa8fd9c21730f3b3344ede", func := "loop.example/g01087/laws.FnExactAlgorithmCost", spec := "fnExactAlgorithmCost", unfollowed := true, recurses := true, apart := false, narrowed := true }
def FnExactAlgorithmCostUptoSaid : Prop := fnExactAlgorithmCostUptoRow.holds Try.pinned (OpenSpec.upto fnExactAlgorithmCostSpec)

/-- 'laws.FnExactGreedyAlgorithm', WHERE WHAT IT READS IS OF BULK AT MOST 1048576: true; the input reads as it did. -/
def fnExactGreedyAlgorithmUptoRow : OpenClaim := { program := "ytbclgdajgaljkaa", sum := "d5e73b2864d919d2f828aee6a38e818472da0eac5bfa8fd9c21730f3b3344ede", func := "loop.example/g01087/laws.FnExactGreedyAlgorithm", spec := "fnExactGreedyAlgorithm", unfollowed := true, recurses := true, apart := false, narrowed := true }
def FnExactGreedyAlgorithmUptoSaid : Prop := fnExactGreedyAlgorithmUptoRow.holds Try.pinned (OpenSpec.upto fnExactGreedyAlgorithmSpec)

/-- 'laws.FnExactAlgorithmStates', WHERE WHAT IT READS IS OF BULK AT MOST 1048576: true; the input reads as it did. -/
def fnExactAlgorithmStatesUptoRow : OpenClaim := { program := "ytbclgdajgaljkaa", sum := "d5e73b2864d919d2f828aee6a38e818472da0eac5bfa8fd9c21730f3b3344ede", func := "loop.example/g01087/laws.FnExactAlgorithmStates", spec := "fnExactAlgorithmStates", unfollowed := true, recurses := true, apart := false, narrowed := true }
def FnExactAlgorithmStatesUptoSaid : Prop := fnExactAlgorithmStatesUptoRow.holds Try.pinned (OpenSpec.upto fnExactAlgorithmStatesSpec)

/-- 'laws.FnExactLazyAlgorithm', WHERE WHAT IT READS IS OF BULK AT MOST 1048576: true; the input reads as it did. -/
def fnExactLazyAlgorithmUptoRow : OpenClaim := { program := "ytbclgdajgaljkaa", sum := "d5e73b2864d919d2f828aee6a38e818472da0eac5bfa8fd9c21730f3b3344ede", func := "loop.example/g01087/laws.FnExactLazyAlgorithm", spec := "fnExactLazyAlgorithm", unfollowed := true, recurses := true, apart := false, narrowed := true }
def FnExactLazyAlgorithmUptoSaid : Prop := fnExactLazyAlgorithmUptoRow.holds Try.pinned (OpenSpec.upto fnExactLazyAlgorithmSpec)

/-- 'laws.FnExactNextWork', WHERE WHAT IT READS IS OF BULK AT MOST 1048576: true; the input reads as it did. -/
def fnExactNextWorkUptoRow : OpenClaim := { program := "ytbclgdajgaljkaa", sum := "d5e73b2864d919d2f828aee6a38e818472da0eac5bfa8fd9c21730f3b3344ede", func := "loop.example/g01087/laws.FnExactNextWork", spec := "fnExactNextWork", unfollowed := true, recurses := true, apart := false, narrowed := true }
def FnExactNextWorkUptoSaid : Prop := fnExactNextWorkUptoRow.holds Try.pinned (OpenSpec.upto fnExactNextWorkSpec)

/-- 'laws.FnExactLeastCost', WHERE WHAT IT READS IS OF BULK AT MOST 1048576: true; the input reads as it did. -/
def fnExactLeastCostUptoRow : OpenClaim := { program := "ytbclgdajgaljkaa", sum := "d5e73b2864d919d2f828aee6a38e818472da0eac5bfa8fd9c21730f3b3344ede", func := "loop.example/g01087/laws.FnExactLeastCost", spec := "fnExactLeastCost", unfollowed := true, recurses := true, apart := false, narrowed := true }
def FnExactLeastCostUptoSaid : Prop := fnExactLeastCostUptoRow.holds Try.pinned (OpenSpec.upto fnExactLeastCostSpec)

/-- 'laws.FnExactWorkFunction', WHERE WHAT IT READS IS OF BULK AT MOST 1048576: true; the input reads as it did. -/
def fnExactWorkFunctionUptoRow : OpenClaim := { program := "ytbclgdajgaljkaa", sum := "d5e73b2864d919d2f828aee6a38e818472da0eac5bfa8fd9c21730f3b3344ede", func := "loop.example/g01087/laws.FnExactWorkFunction", spec := "fnExactWorkFunction", unfollowed := true, recurses := true, apart := false, narrowed := true }
def FnExactWorkFunctionUptoSaid : Prop := fnExactWorkFunctionUptoRow.holds Try.pinned (OpenSpec.upto fnExactWorkFunctionSpec)

/-- 'laws.FnExactBestSchedule', WHERE WHAT IT READS IS OF BULK AT MOST 1048576: true; the input reads as it did. -/
def fnExactBestScheduleUptoRow : OpenClaim := { program := "ytbclgdajgaljkaa", sum := "d5e73b2864d919d2f828aee6a38e818472da0eac5bfa8fd9c21730f3b3344ede", func := "loop.example/g01087/laws.FnExactBestSchedule", spec := "fnExactBestSchedule", unfollowed := true, recurses := true, apart := false, narrowed := true }
def FnExactBestScheduleUptoSaid : Prop := fnExactBestScheduleUptoRow.holds Try.pinned (OpenSpec.upto fnExactBestScheduleSpec)

/-- 'laws.FnExactOffsetSteps', WHERE WHAT IT READS IS OF BULK AT MOST 1048576: true; the input reads as it did. -/
def fnExactOffsetStepsUptoRow : OpenClaim := { program := "ytbclgdajgaljkaa", sum := "d5e73b2864d919d2f828aee6a38e818472da0eac5bfa8fd9c21730f3b3344ede", func := "loop.example/g01087/laws.FnExactOffsetSteps", spec := "fnExactOffsetSteps", unfollowed := true, recurses := true, apart := false, narrowed := true }
def FnExactOffsetStepsUptoSaid : Prop := fnExactOffsetStepsUptoRow.holds Try.pinned (OpenSpec.upto fnExactOffsetStepsSpec)

/-- 'laws.FnExactOffsetsOf', WHERE WHAT IT READS IS OF BULK AT MOST 1048576: true; the input reads as it did. -/
def fnExactOffsetsOfUptoRow : OpenClaim := { program := "ytbclgdajgaljkaa", sum := "d5e73b2864d919d2f828aee6a38e818472da0eac5bfa8fd9c21730f3b3344ede", func := "loop.example/g01087/laws.FnExactOffsetsOf", spec := "fnExactOffsetsOf", unfollowed := true, recurses := true, apart := false, narrowed := true }
def FnExactOffsetsOfUptoSaid : Prop := fnExactOffsetsOfUptoRow.holds Try.pinned (OpenSpec.upto fnExactOffsetsOfSpec)

/-- 'laws.FnExactWorstSequence', WHERE WHAT IT READS IS OF BULK AT MOST 1048576: true; the input reads as it did. -/
def fnExactWorstSequenceUptoRow : OpenClaim := { program := "ytbclgdajgaljkaa", sum := "d5e73b2864d919d2f828aee6a38e818472da0eac5bfa8fd9c21730f3b3344ede", func := "loop.example/g01087/laws.FnExactWorstSequence", spec := "fnExactWorstSequence", unfollowed := true, recurses := true, apart := false, narrowed := true }
def FnExactWorstSequenceUptoSaid : Prop := fnExactWorstSequenceUptoRow.holds Try.pinned (OpenSpec.upto fnExactWorstSequenceSpec)

end Rows
end Go.Proofs.Ytbclgdajgaljkaa
