/-
  No cell of these rows narrows 'for every input' (looked for: loops, veiled, ifaces, maps, wideKeys, modest, calm, conditions, laid).
  DERIVED. THE GIVEN ROWS OF THIS SEAT. 7 by the template 'for every input the law returns true; each argument reads behind the call as it read before'; 0 by the template 'total and deterministic' (their statements: YtobfehekjapnhaaTotals.lean).
  GIVEN WITH THE SEED: the statements are not yours to turn. If you find one false, say at which input.
  Laid BY PROGRAM, IN A SANDBOX (cutbox-rows.mjs): the forced cells as the released guide's own fill.sh prints them over the translation 9ab4535310ce0591… (all of the seat's roots in one cut). By AI agents, Wed Nov 11 2026. No macro, syntax, notation, axiom, sorry.
-/
import Derived.Test.YtobfehekjapnhaaChecked
import GoSem.Claim
import GoSem.ClaimJoined
import GoSem.ClaimMapViews
import Derived.JoinedTies
import Derived.KernelRfl
namespace Go.Proofs.Ytobfehekjapnhaa
/- THE CELL 'sum', in the pinned program and in every row, IS THE sha256 OF THE DUMP (.gsa) THAT YtobfehekjapnhaaProg.lean LOADS. Nothing in Lean hashes anything: it is a label: what it is worth is what the hold of that sum in a sandbox is worth. -/
noncomputable def Try.pinned : Pinned := { name := "ytobfehekjapnhaa", sum := "9ab4535310ce05913fd4046a680d67efbca66d587bcbe698095b8a1f801f0a3a", checked := Try.checked }
namespace Rows
def none {H : Type} : Left H := { results := [], args := [] }

/-- 'laws.FnExactBestSchedule': WHATEVER THE INPUT: true; the input reads as it did. -/
def fnExactBestScheduleSpec : ChangeSpec := { name := "fnExactBestSchedule", fn := fun _ => fun
  | [d1, d2, d3] => { results := [.lit (.bool true)], args := [d1, d2, d3] }
  | _ => none }
def fnExactBestScheduleRow : OpenClaim := { program := "ytobfehekjapnhaa", sum := "9ab4535310ce05913fd4046a680d67efbca66d587bcbe698095b8a1f801f0a3a", func := "loop.example/g01087/laws.FnExactBestSchedule", spec := "fnExactBestSchedule", unfollowed := true, recurses := true, apart := false }
def FnExactBestScheduleSaid : Prop := fnExactBestScheduleRow.holds Try.pinned (OpenSpec.ofChange fnExactBestScheduleSpec)

/-- ITS FALSE NEIGHBOUR: 'it returns false'. Refute it at one input. -/
def fnExactBestScheduleWrong : ChangeSpec := { name := "fnExactBestSchedule", fn := fun _ => fun
  | [d1, d2, d3] => { results := [.lit (.bool false)], args := [d1, d2, d3] }
  | _ => none }
def FnExactBestScheduleWrongFalsely : Prop := fnExactBestScheduleRow.holds Try.pinned (OpenSpec.ofChange fnExactBestScheduleWrong)

/-- 'laws.FnExactRatioOn': WHATEVER THE INPUT: true; the input reads as it did. -/
def fnExactRatioOnSpec : ChangeSpec := { name := "fnExactRatioOn", fn := fun _ => fun
  | [d1, d2, d3, d4] => { results := [.lit (.bool true)], args := [d1, d2, d3, d4] }
  | _ => none }
def fnExactRatioOnRow : OpenClaim := { program := "ytobfehekjapnhaa", sum := "9ab4535310ce05913fd4046a680d67efbca66d587bcbe698095b8a1f801f0a3a", func := "loop.example/g01087/laws.FnExactRatioOn", spec := "fnExactRatioOn", unfollowed := true, recurses := true, apart := false }
def FnExactRatioOnSaid : Prop := fnExactRatioOnRow.holds Try.pinned (OpenSpec.ofChange fnExactRatioOnSpec)

/-- ITS FALSE NEIGHBOUR: 'it returns false'. Refute it at one input. -/
def fnExactRatioOnWrong : ChangeSpec := { name := "fnExactRatioOn", fn := fun _ => fun
  | [d1, d2, d3, d4] => { results := [.lit (.bool false)], args := [d1, d2, d3, d4] }
  | _ => none }
def FnExactRatioOnWrongFalsely : Prop := fnExactRatioOnRow.holds Try.pinned (OpenSpec.ofChange fnExactRatioOnWrong)

/-- 'laws.FnExactPairAfter': WHATEVER THE INPUT: true; the input reads as it did. -/
def fnExactPairAfterSpec : ChangeSpec := { name := "fnExactPairAfter", fn := fun _ => fun
  | [d1, d2, d3, d4] => { results := [.lit (.bool true)], args := [d1, d2, d3, d4] }
  | _ => none }
def fnExactPairAfterRow : OpenClaim := { program := "ytobfehekjapnhaa", sum := "9ab4535310ce05913fd4046a680d67efbca66d587bcbe698095b8a1f801f0a3a", func := "loop.example/g01087/laws.FnExactPairAfter", spec := "fnExactPairAfter", unfollowed := true, recurses := true, apart := false }
def FnExactPairAfterSaid : Prop := fnExactPairAfterRow.holds Try.pinned (OpenSpec.ofChange fnExactPairAfterSpec)

/-- ITS FALSE NEIGHBOUR: 'it returns false'. Refute it at one input. -/
def fnExactPairAfterWrong : ChangeSpec := { name := "fnExactPairAfter", fn := fun _ => fun
  | [d1, d2, d3, d4] => { results := [.lit (.bool false)], args := [d1, d2, d3, d4] }
  | _ => none }
def FnExactPairAfterWrongFalsely : Prop := fnExactPairAfterRow.holds Try.pinned (OpenSpec.ofChange fnExactPairAfterWrong)

/-- 'laws.FnExactPairsOf': WHATEVER THE INPUT: true; the input reads as it did. -/
def fnExactPairsOfSpec : ChangeSpec := { name := "fnExactPairsOf", fn := fun _ => fun
  | [d1, d2, d3] => { results := [.lit (.bool true)], args := [d1, d2, d3] }
  | _ => none }
def fnExactPairsOfRow : OpenClaim := { program := "ytobfehekjapnhaa", sum := "9ab4535310ce05913fd4046a680d67efbca66d587bcbe698095b8a1f801f0a3a", func := "loop.example/g01087/laws.FnExactPairsOf", spec := "fnExactPairsOf", unfollowed := true, recurses := true, apart := false }
def FnExactPairsOfSaid : Prop := fnExactPairsOfRow.holds Try.pinned (OpenSpec.ofChange fnExactPairsOfSpec)

/-- ITS FALSE NEIGHBOUR: 'it returns false'. Refute it at one input. -/
def fnExactPairsOfWrong : ChangeSpec := { name := "fnExactPairsOf", fn := fun _ => fun
  | [d1, d2, d3] => { results := [.lit (.bool false)], args := [d1, d2, d3] }
  | _ => none }
def FnExactPairsOfWrongFalsely : Prop := fnExactPairsOfRow.holds Try.pinned (OpenSpec.ofChange fnExactPairsOfWrong)

/-- 'laws.FnExactIsPotential': WHATEVER THE INPUT: true; the input reads as it did. -/
def fnExactIsPotentialSpec : ChangeSpec := { name := "fnExactIsPotential", fn := fun _ => fun
  | [d1, d2, d3, d4, d5] => { results := [.lit (.bool true)], args := [d1, d2, d3, d4, d5] }
  | _ => none }
def fnExactIsPotentialRow : OpenClaim := { program := "ytobfehekjapnhaa", sum := "9ab4535310ce05913fd4046a680d67efbca66d587bcbe698095b8a1f801f0a3a", func := "loop.example/g01087/laws.FnExactIsPotential", spec := "fnExactIsPotential", unfollowed := true, recurses := true, apart := false }
def FnExactIsPotentialSaid : Prop := fnExactIsPotentialRow.holds Try.pinned (OpenSpec.ofChange fnExactIsPotentialSpec)

/-- ITS FALSE NEIGHBOUR: 'it returns false'. Refute it at one input. -/
def fnExactIsPotentialWrong : ChangeSpec := { name := "fnExactIsPotential", fn := fun _ => fun
  | [d1, d2, d3, d4, d5] => { results := [.lit (.bool false)], args := [d1, d2, d3, d4, d5] }
  | _ => none }
def FnExactIsPotentialWrongFalsely : Prop := fnExactIsPotentialRow.holds Try.pinned (OpenSpec.ofChange fnExactIsPotentialWrong)

/-- 'laws.FnExactFirstBroken': WHATEVER THE INPUT: true; the input reads as it did. -/
def fnExactFirstBrokenSpec : ChangeSpec := { name := "fnExactFirstBroken", fn := fun _ => fun
  | [d1, d2, d3, d4, d5] => { results := [.lit (.bool true)], args := [d1, d2, d3, d4, d5] }
  | _ => none }
def fnExactFirstBrokenRow : OpenClaim := { program := "ytobfehekjapnhaa", sum := "9ab4535310ce05913fd4046a680d67efbca66d587bcbe698095b8a1f801f0a3a", func := "loop.example/g01087/laws.FnExactFirstBroken", spec := "fnExactFirstBroken", unfollowed := true, recurses := true, apart := false }
def FnExactFirstBrokenSaid : Prop := fnExactFirstBrokenRow.holds Try.pinned (OpenSpec.ofChange fnExactFirstBrokenSpec)

/-- ITS FALSE NEIGHBOUR: 'it returns false'. Refute it at one input. -/
def fnExactFirstBrokenWrong : ChangeSpec := { name := "fnExactFirstBroken", fn := fun _ => fun
  | [d1, d2, d3, d4, d5] => { results := [.lit (.bool false)], args := [d1, d2, d3, d4, d5] }
  | _ => none }
def FnExactFirstBrokenWrongFalsely : Prop := fnExactFirstBrokenRow.holds Try.pinned (OpenSpec.ofChange fnExactFirstBrokenWrong)

/-- 'laws.FnExactCycleGain': WHATEVER THE INPUT: true; the input reads as it did. -/
def fnExactCycleGainSpec : ChangeSpec := { name := "fnExactCycleGain", fn := fun _ => fun
  | [d1, d2, d3, d4, d5, d6] => { results := [.lit (.bool true)], args := [d1, d2, d3, d4, d5, d6] }
  | _ => none }
def fnExactCycleGainRow : OpenClaim := { program := "ytobfehekjapnhaa", sum := "9ab4535310ce05913fd4046a680d67efbca66d587bcbe698095b8a1f801f0a3a", func := "loop.example/g01087/laws.FnExactCycleGain", spec := "fnExactCycleGain", unfollowed := true, recurses := true, apart := false }
def FnExactCycleGainSaid : Prop := fnExactCycleGainRow.holds Try.pinned (OpenSpec.ofChange fnExactCycleGainSpec)

/-- ITS FALSE NEIGHBOUR: 'it returns false'. Refute it at one input. -/
def fnExactCycleGainWrong : ChangeSpec := { name := "fnExactCycleGain", fn := fun _ => fun
  | [d1, d2, d3, d4, d5, d6] => { results := [.lit (.bool false)], args := [d1, d2, d3, d4, d5, d6] }
  | _ => none }
def FnExactCycleGainWrongFalsely : Prop := fnExactCycleGainRow.holds Try.pinned (OpenSpec.ofChange fnExactCycleGainWrong)

/- THE SECOND FORM. 'bulk': how many values and letters a reading holds, each counted each time it is reached (what is shared counts as often as it is met; a slice's spare places count too). A statement '..UptoSaid' is the law's where the arguments, and the package variables that the reading takes, are together of bulk at most 1048576: NARROWER than '..Said'. Prove '..Said' where nothing that the law and all that it calls make is longer than what came in: it says more and counts as full. Else prove '..UptoSaid'. A law counts once. -/
mutual
def uptoBulk {H : Type} : DataW H → Nat
  | .lit (.string bytes) => bytes.length + 1
  | .lit _ => 1
  | .nil => 1
  | .ptr d => uptoBulk d + 1
  | .slice elems spare => uptoBulkAll elems + uptoBulkAll spare + 1
  | .agg parts => uptoBulkAll parts + 1
  | .iface _ d => uptoBulk d + 1
  | .map entries => uptoBulkEntries entries + 1
  | .held _ => 1
def uptoBulkAll {H : Type} : List (DataW H) → Nat
  | [] => 0
  | d :: r => uptoBulk d + uptoBulkAll r
def uptoBulkEntries {H : Type} : List (Lit × DataW H) → Nat
  | [] => 0
  | x :: r => uptoBulkEntry x + uptoBulkEntries r
def uptoBulkEntry {H : Type} : Lit × DataW H → Nat
  | (.string bytes, d) => bytes.length + uptoBulk d + 1
  | (_, d) => uptoBulk d + 1
 end
def uptoSmall : (H : Type) → List (DataW H) → Bool := fun _ ds => decide (uptoBulkAll ds ≤ 1048576)
def OpenSpec.upto (s : _root_.Go.ChangeSpec) : _root_.Go.OpenSpec := { _root_.Go.OpenSpec.ofChange s with cond := some uptoSmall }

/-- 'laws.FnExactBestSchedule', WHERE WHAT IT READS IS OF BULK AT MOST 1048576: true; the input reads as it did. -/
def fnExactBestScheduleUptoRow : OpenClaim := { program := "ytobfehekjapnhaa", sum := "9ab4535310ce05913fd4046a680d67efbca66d587bcbe698095b8a1f801f0a3a", func := "loop.example/g01087/laws.FnExactBestSchedule", spec := "fnExactBestSchedule", unfollowed := true, recurses := true, apart := false, narrowed := true }
def FnExactBestScheduleUptoSaid : Prop := fnExactBestScheduleUptoRow.holds Try.pinned (OpenSpec.upto fnExactBestScheduleSpec)

/-- 'laws.FnExactRatioOn', WHERE WHAT IT READS IS OF BULK AT MOST 1048576: true; the input reads as it did. -/
def fnExactRatioOnUptoRow : OpenClaim := { program := "ytobfehekjapnhaa", sum := "9ab4535310ce05913fd4046a680d67efbca66d587bcbe698095b8a1f801f0a3a", func := "loop.example/g01087/laws.FnExactRatioOn", spec := "fnExactRatioOn", unfollowed := true, recurses := true, apart := false, narrowed := true }
def FnExactRatioOnUptoSaid : Prop := fnExactRatioOnUptoRow.holds Try.pinned (OpenSpec.upto fnExactRatioOnSpec)

/-- 'laws.FnExactPairAfter', WHERE WHAT IT READS IS OF BULK AT MOST 1048576: true; the input reads as it did. -/
def fnExactPairAfterUptoRow : OpenClaim := { program := "ytobfehekjapnhaa", sum := "9ab4535310ce05913fd4046a680d67efbca66d587bcbe698095b8a1f801f0a3a", func := "loop.example/g01087/laws.FnExactPairAfter", spec := "fnExactPairAfter", unfollowed := true, recurses := true, apart := false, narrowed := true }
def FnExactPairAfterUptoSaid : Prop := fnExactPairAfterUptoRow.holds Try.pinned (OpenSpec.upto fnExactPairAfterSpec)

/-- 'laws.FnExactPairsOf', WHERE WHAT IT READS IS OF BULK AT MOST 1048576: true; the input reads as it did. -/
def fnExactPairsOfUptoRow : OpenClaim := { program := "ytobfehekjapnhaa", sum := "9ab4535310ce05913fd4046a680d67efbca66d587bcbe698095b8a1f801f0a3a", func := "loop.example/g01087/laws.FnExactPairsOf", spec := "fnExactPairsOf", unfollowed := true, recurses := true, apart := false, narrowed := true }
def FnExactPairsOfUptoSaid : Prop := fnExactPairsOfUptoRow.holds Try.pinned (OpenSpec.upto fnExactPairsOfSpec)

/-- 'laws.FnExactIsPotential', WHERE WHAT IT READS IS OF BULK AT MOST 1048576: true; the input reads as it did. -/
def fnExactIsPotentialUptoRow : OpenClaim := { program := "ytobfehekjapnhaa", sum := "9ab4535310ce05913fd4046a680d67efbca66d587bcbe698095b8a1f801f0a3a", func := "loop.example/g01087/laws.FnExactIsPotential", spec := "fnExactIsPotential", unfollowed := true, recurses := true, apart := false, narrowed := true }
def FnExactIsPotentialUptoSaid : Prop := fnExactIsPotentialUptoRow.holds Try.pinned (OpenSpec.upto fnExactIsPotentialSpec)

/-- 'laws.FnExactFirstBroken', WHERE WHAT IT READS IS OF BULK AT MOST 1048576: true; the input reads as it did. -/
def fnExactFirstBrokenUptoRow : OpenClaim := { program := "ytobfehekjapnhaa", sum := "9ab4535310ce05913fd4046a680d67efbca66d587bcbe698095b8a1f801f0a3a", func := "loop.example/g01087/laws.FnExactFirstBroken", spec := "fnExactFirstBroken", unfollowed := true, recurses := true, apart := false, narrowed := true }
def FnExactFirstBrokenUptoSaid : Prop := fnExactFirstBrokenUptoRow.holds Try.pinned (OpenSpec.upto fnExactFirstBrokenSpec)

/-- 'laws.FnExactCycleGain', WHERE WHAT IT READS IS OF BULK AT MOST 1048576: true; the input reads as it did. -/
def fnExactCycleGainUptoRow : OpenClaim := { program := "ytobfehekjapnhaa", sum := "9ab4535310ce05913fd4046a680d67efbca66d587bcbe698095b8a1f801f0a3a", func := "loop.example/g01087/laws.FnExactCycleGain", spec := "fnExactCycleGain", unfollowed := true, recurses := true, apart := false, narrowed := true }
def FnExactCycleGainUptoSaid : Prop := fnExactCycleGainUptoRow.holds Try.pinned (OpenSpec.upto fnExactCycleGainSpec)

end Rows
end Go.Proofs.Ytobfehekjapnhaa
