/-
  No cell of these rows narrows 'for every input' (looked for: loops, veiled, ifaces, maps, wideKeys, modest, calm, conditions, laid).
  DERIVED. THE GIVEN ROWS OF THIS SEAT. 5 by the template 'for every input the law returns true; each argument reads behind the call as it read before'; 0 by the template 'total and deterministic' (their statements: YtpiplhgiphndeaaTotals.lean).
  GIVEN WITH THE SEED: the statements are not yours to turn. If you find one false, say at which input.
  Laid BY PROGRAM, IN A SANDBOX (cutbox-rows.mjs): the forced cells as the released guide's own fill.sh prints them over the translation acfb0f44ad8f1096… (all of the seat's roots in one cut). By AI agents, Wed Nov 11 2026. No macro, syntax, notation, axiom, sorry.
-/
import Derived.Test.YtpiplhgiphndeaaChecked
import GoSem.Claim
import GoSem.ClaimJoined
import GoSem.ClaimMapViews
import Derived.JoinedTies
import Derived.KernelRfl
namespace Go.Proofs.Ytpiplhgiphndeaa
/- THE CELL 'sum', in the pinned program and in every row, IS THE sha256 OF THE DUMP (.gsa) THAT YtpiplhgiphndeaaProg.lean LOADS. Nothing in Lean hashes anything: it is a label: what it is worth is what the hold of that sum in a sandbox is worth. -/
noncomputable def Try.pinned : Pinned := { name := "ytpiplhgiphndeaa", sum := "acfb0f44ad8f10968a76cc4a602d88fadb507d780cb4bd9740b0df90a6623f3f", checked := Try.checked }
namespace Rows
def none {H : Type} : Left H := { results := [], args := [] }

/-- 'laws.FnExactChainCost': WHATEVER THE INPUT: true; the input reads as it did. -/
def fnExactChainCostSpec : ChangeSpec := { name := "fnExactChainCost", fn := fun _ => fun
  | [d1, d2, d3, d4] => { results := [.lit (.bool true)], args := [d1, d2, d3, d4] }
  | _ => none }
def fnExactChainCostRow : OpenClaim := { program := "ytpiplhgiphndeaa", sum := "acfb0f44ad8f10968a76cc4a602d88fadb507d780cb4bd9740b0df90a6623f3f", func := "loop.example/g01087/laws.FnExactChainCost", spec := "fnExactChainCost", unfollowed := true, recurses := true, apart := false }
def FnExactChainCostSaid : Prop := fnExactChainCostRow.holds Try.pinned (OpenSpec.ofChange fnExactChainCostSpec)

/-- ITS FALSE NEIGHBOUR: 'it returns false'. Refute it at one input. -/
def fnExactChainCostWrong : ChangeSpec := { name := "fnExactChainCost", fn := fun _ => fun
  | [d1, d2, d3, d4] => { results := [.lit (.bool false)], args := [d1, d2, d3, d4] }
  | _ => none }
def FnExactChainCostWrongFalsely : Prop := fnExactChainCostRow.holds Try.pinned (OpenSpec.ofChange fnExactChainCostWrong)

/-- 'laws.FnExactExchangeBreak': WHATEVER THE INPUT: true; the input reads as it did. -/
def fnExactExchangeBreakSpec : ChangeSpec := { name := "fnExactExchangeBreak", fn := fun _ => fun
  | [d1, d2, d3] => { results := [.lit (.bool true)], args := [d1, d2, d3] }
  | _ => none }
def fnExactExchangeBreakRow : OpenClaim := { program := "ytpiplhgiphndeaa", sum := "acfb0f44ad8f10968a76cc4a602d88fadb507d780cb4bd9740b0df90a6623f3f", func := "loop.example/g01087/laws.FnExactExchangeBreak", spec := "fnExactExchangeBreak", unfollowed := true, recurses := true, apart := false }
def FnExactExchangeBreakSaid : Prop := fnExactExchangeBreakRow.holds Try.pinned (OpenSpec.ofChange fnExactExchangeBreakSpec)

/-- ITS FALSE NEIGHBOUR: 'it returns false'. Refute it at one input. -/
def fnExactExchangeBreakWrong : ChangeSpec := { name := "fnExactExchangeBreak", fn := fun _ => fun
  | [d1, d2, d3] => { results := [.lit (.bool false)], args := [d1, d2, d3] }
  | _ => none }
def FnExactExchangeBreakWrongFalsely : Prop := fnExactExchangeBreakRow.holds Try.pinned (OpenSpec.ofChange fnExactExchangeBreakWrong)

/-- 'laws.FnExactWorkRun': WHATEVER THE INPUT: true; the input reads as it did. -/
def fnExactWorkRunSpec : ChangeSpec := { name := "fnExactWorkRun", fn := fun _ => fun
  | [d1, d2, d3] => { results := [.lit (.bool true)], args := [d1, d2, d3] }
  | _ => none }
def fnExactWorkRunRow : OpenClaim := { program := "ytpiplhgiphndeaa", sum := "acfb0f44ad8f10968a76cc4a602d88fadb507d780cb4bd9740b0df90a6623f3f", func := "loop.example/g01087/laws.FnExactWorkRun", spec := "fnExactWorkRun", unfollowed := true, recurses := true, apart := false }
def FnExactWorkRunSaid : Prop := fnExactWorkRunRow.holds Try.pinned (OpenSpec.ofChange fnExactWorkRunSpec)

/-- ITS FALSE NEIGHBOUR: 'it returns false'. Refute it at one input. -/
def fnExactWorkRunWrong : ChangeSpec := { name := "fnExactWorkRun", fn := fun _ => fun
  | [d1, d2, d3] => { results := [.lit (.bool false)], args := [d1, d2, d3] }
  | _ => none }
def FnExactWorkRunWrongFalsely : Prop := fnExactWorkRunRow.holds Try.pinned (OpenSpec.ofChange fnExactWorkRunWrong)

/-- 'laws.FnExactCruelRequests': WHATEVER THE INPUT: true; the input reads as it did. -/
def fnExactCruelRequestsSpec : ChangeSpec := { name := "fnExactCruelRequests", fn := fun _ => fun
  | [d1, d2, d3] => { results := [.lit (.bool true)], args := [d1, d2, d3] }
  | _ => none }
def fnExactCruelRequestsRow : OpenClaim := { program := "ytpiplhgiphndeaa", sum := "acfb0f44ad8f10968a76cc4a602d88fadb507d780cb4bd9740b0df90a6623f3f", func := "loop.example/g01087/laws.FnExactCruelRequests", spec := "fnExactCruelRequests", unfollowed := true, recurses := true, apart := false }
def FnExactCruelRequestsSaid : Prop := fnExactCruelRequestsRow.holds Try.pinned (OpenSpec.ofChange fnExactCruelRequestsSpec)

/-- ITS FALSE NEIGHBOUR: 'it returns false'. Refute it at one input. -/
def fnExactCruelRequestsWrong : ChangeSpec := { name := "fnExactCruelRequests", fn := fun _ => fun
  | [d1, d2, d3] => { results := [.lit (.bool false)], args := [d1, d2, d3] }
  | _ => none }
def FnExactCruelRequestsWrongFalsely : Prop := fnExactCruelRequestsRow.holds Try.pinned (OpenSpec.ofChange fnExactCruelRequestsWrong)

/-- 'laws.FnSupport': WHATEVER THE INPUT: true; the input reads as it did. -/
def fnSupportSpec : ChangeSpec := { name := "fnSupport", fn := fun _ => fun
  | [d] => { results := [.lit (.bool true)], args := [d] }
  | _ => none }
def fnSupportRow : OpenClaim := { program := "ytpiplhgiphndeaa", sum := "acfb0f44ad8f10968a76cc4a602d88fadb507d780cb4bd9740b0df90a6623f3f", func := "loop.example/g01087/laws.FnSupport", spec := "fnSupport", unfollowed := true, recurses := true, apart := false }
def FnSupportSaid : Prop := fnSupportRow.holds Try.pinned (OpenSpec.ofChange fnSupportSpec)

/-- ITS FALSE NEIGHBOUR: 'it returns false'. Refute it at one input. -/
def fnSupportWrong : ChangeSpec := { name := "fnSupport", fn := fun _ => fun
  | [d] => { results := [.lit (.bool false)], args := [d] }
  | _ => none }
def FnSupportWrongFalsely : Prop := fnSupportRow.holds Try.pinned (OpenSpec.ofChange fnSupportWrong)

/- THE SECOND FORM. 'bulk': how many values and letters a reading holds, each counted each time it is reached (what is shared counts as often as it is met; a slice's spare places count too). A statement '..UptoSaid' is the law's where the arguments, and the package variables that the reading takes, are together of bulk at most 1048576: NARROWER than '..Said'. Prove '..Said' where nothing that the law and all that it calls make is longer than what came in: it says more and counts as full. Else prove '..UptoSaid'. A law counts once. -/
mutual
def uptoBulk {H : Type} : DataW H → Nat
  | .lit (.string bytes) => bytes.length + 1
  | .lit _ => 1
  | .nil => 1
  | .ptr d => uptoBulk d + 1
  | .slice elems spare => uptoBulkAll elems + uptoBulkAll spare + 1
  | .agg parts => uptoBulkAll parts + 1
  | .iface _ d => uptoBulk d + 1
  | .map entries => uptoBulkEntries entries + 1
  | .held _ => 1
def uptoBulkAll {H : Type} : List (DataW H) → Nat
  | [] => 0
  | d :: r => uptoBulk d + uptoBulkAll r
def uptoBulkEntries {H : Type} : List (Lit × DataW H) → Nat
  | [] => 0
  | x :: r => uptoBulkEntry x + uptoBulkEntries r
def uptoBulkEntry {H : Type} : Lit × DataW H → Nat
  | (.string bytes, d) => bytes.length + uptoBulk d + 1
  | (_, d) => uptoBulk d + 1
 end
def uptoSmall : (H : Type) → List (DataW H) → Bool := fun _ ds => decide (uptoBulkAll ds ≤ 1048576)
def OpenSpec.upto (s : _root_.Go.ChangeSpec) : _root_.Go.OpenSpec := { _root_.Go.OpenSpec.ofChange s with cond := some uptoSmall }

/-- 'laws.FnExactChainCost', WHERE WHAT IT READS IS OF BULK AT MOST 1048576: true; the input reads as it did. -/
def fnExactChainCostUptoRow : OpenClaim := { program := "ytpiplhgiphndeaa", sum := "acfb0f44ad8f10968a76cc4a602d88fadb507d780cb4bd9740b0df90a6623f3f", func := "loop.example/g01087/laws.FnExactChainCost", spec := "fnExactChainCost", unfollowed := true, recurses := true, apart := false, narrowed := true }
def FnExactChainCostUptoSaid : Prop := fnExactChainCostUptoRow.holds Try.pinned (OpenSpec.upto fnExactChainCostSpec)

/-- 'laws.FnExactExchangeBreak', WHERE WHAT IT READS IS OF BULK AT MOST 1048576: true; the input reads as it did. -/
def fnExactExchangeBreakUptoRow : OpenClaim := { program := "ytpiplhgiphndeaa", sum := "acfb0f44ad8f10968a76cc4a602d88fadb507d780cb4bd9740b0df90a6623f3f", func := "loop.example/g01087/laws.FnExactExchangeBreak", spec := "fnExactExchangeBreak", unfollowed := true, recurses := true, apart := false, narrowed := true }
def FnExactExchangeBreakUptoSaid : Prop := fnExactExchangeBreakUptoRow.holds Try.pinned (OpenSpec.upto fnExactExchangeBreakSpec)

/-- 'laws.FnExactWorkRun', WHERE WHAT IT READS IS OF BULK AT MOST 1048576: true; the input reads as it did. -/
def fnExactWorkRunUptoRow : OpenClaim := { program := "ytpiplhgiphndeaa", sum := "acfb0f44ad8f10968a76cc4a602d88fadb507d780cb4bd9740b0df90a6623f3f", func := "loop.example/g01087/laws.FnExactWorkRun", spec := "fnExactWorkRun", unfollowed := true, recurses := true, apart := false, narrowed := true }
def FnExactWorkRunUptoSaid : Prop := fnExactWorkRunUptoRow.holds Try.pinned (OpenSpec.upto fnExactWorkRunSpec)

/-- 'laws.FnExactCruelRequests', WHERE WHAT IT READS IS OF BULK AT MOST 1048576: true; the input reads as it did. -/
def fnExactCruelRequestsUptoRow : OpenClaim := { program := "ytpiplhgiphndeaa", sum := "acfb0f44ad8f10968a76cc4a602d88fadb507d780cb4bd9740b0df90a6623f3f", func := "loop.example/g01087/laws.FnExactCruelRequests", spec := "fnExactCruelRequests", unfollowed := true, recurses := true, apart := false, narrowed := true }
def FnExactCruelRequestsUptoSaid : Prop := fnExactCruelRequestsUptoRow.holds Try.pinned (OpenSpec.upto fnExactCruelRequestsSpec)

/-- 'laws.FnSupport', WHERE WHAT IT READS IS OF BULK AT MOST 1048576: true; the input reads as it did. -/
def fnSupportUptoRow : OpenClaim := { program := "ytpiplhgiphndeaa", sum := "acfb0f44ad8f10968a76cc4a602d88fadb507d780cb4bd9740b0df90a6623f3f", func := "loop.example/g01087/laws.FnSupport", spec := "fnSupport", unfollowed := true, recurses := true, apart := false, narrowed := true }
def FnSupportUptoSaid : Prop := fnSupportUptoRow.holds Try.pinned (OpenSpec.upto fnSupportSpec)

end Rows
end Go.Proofs.Ytpiplhgiphndeaa
