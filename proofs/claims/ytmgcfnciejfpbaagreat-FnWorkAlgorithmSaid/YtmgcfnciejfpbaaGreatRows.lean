/-
  No cell of these rows narrows 'for every input' (looked for: loops, veiled, ifaces, maps, wideKeys, modest, calm, conditions, laid).
  DERIVED. THE GIVEN ROWS OF THIS SEAT. 7 by the template 'for every input the law returns true; each argument reads behind the call as it read before'; 0 by the template 'total and deterministic' (their statements: YtmgcfnciejfpbaaGreatTotals.lean).
  GIVEN WITH THE SEED: the statements are not yours to turn. If you find one false, say at which input.
  Laid BY PROGRAM, IN A SANDBOX (cutbox-rows.mjs): the forced cells as the released guide's own fill.sh prints them over the translation 2bc6294143ca02e4… (all of the seat's roots in one cut). By AI agents, Wed Nov 11 2026. No macro, syntax, notation, axiom, sorry.
-/
import Derived.Test.YtmgcfnciejfpbaaGreatChecked
import GoSem.Claim
import GoSem.ClaimJoined
import GoSem.ClaimMapViews
import Derived.JoinedTies
import Derived.KernelRfl
namespace Go.Proofs.YtmgcfnciejfpbaaGreat
/- THE CELL 'sum', in the pinned program and in every row, IS THE sha256 OF THE DUMP (.gsa) THAT YtmgcfnciejfpbaaGreatProg.lean LOADS. Nothing in Lean hashes anything: it is a label: what it is worth is what the hold of that sum in a sandbox is worth. -/
noncomputable def Tryz.pinned : Pinned := { name := "ytmgcfnciejfpbaagreat", sum := "2bc6294143ca02e49be834e9ac415faf57f9193df3d7af823d8f4dacf5870f45", checked := Tryz.checked }
namespace Rows
def none {H : Type} : Left H := { results := [], args := [] }

/-- 'laws.FnWorkLists': WHATEVER THE INPUT: true; the input reads as it did. -/
def fnWorkListsSpec : ChangeSpec := { name := "fnWorkLists", fn := fun _ => fun
  | [d] => { results := [.lit (.bool true)], args := [d] }
  | _ => none }
def fnWorkListsRow : OpenClaim := { program := "ytmgcfnciejfpbaagreat", sum := "2bc6294143ca02e49be834e9ac415faf57f9193df3d7af823d8f4dacf5870f45", func := "loop.example/g01087/laws.FnWorkLists", spec := "fnWorkLists", unfollowed := true, recurses := true, apart := false }
def FnWorkListsSaid : Prop := fnWorkListsRow.holds Tryz.pinned (OpenSpec.ofChange fnWorkListsSpec)

/-- ITS FALSE NEIGHBOUR: 'it returns false'. Refute it at one input. -/
def fnWorkListsWrong : ChangeSpec := { name := "fnWorkLists", fn := fun _ => fun
  | [d] => { results := [.lit (.bool false)], args := [d] }
  | _ => none }
def FnWorkListsWrongFalsely : Prop := fnWorkListsRow.holds Tryz.pinned (OpenSpec.ofChange fnWorkListsWrong)

/-- 'laws.FnCruelRequests': WHATEVER THE INPUT: true; the input reads as it did. -/
def fnCruelRequestsSpec : ChangeSpec := { name := "fnCruelRequests", fn := fun _ => fun
  | [d] => { results := [.lit (.bool true)], args := [d] }
  | _ => none }
def fnCruelRequestsRow : OpenClaim := { program := "ytmgcfnciejfpbaagreat", sum := "2bc6294143ca02e49be834e9ac415faf57f9193df3d7af823d8f4dacf5870f45", func := "loop.example/g01087/laws.FnCruelRequests", spec := "fnCruelRequests", unfollowed := true, recurses := true, apart := false }
def FnCruelRequestsSaid : Prop := fnCruelRequestsRow.holds Tryz.pinned (OpenSpec.ofChange fnCruelRequestsSpec)

/-- ITS FALSE NEIGHBOUR: 'it returns false'. Refute it at one input. -/
def fnCruelRequestsWrong : ChangeSpec := { name := "fnCruelRequests", fn := fun _ => fun
  | [d] => { results := [.lit (.bool false)], args := [d] }
  | _ => none }
def FnCruelRequestsWrongFalsely : Prop := fnCruelRequestsRow.holds Tryz.pinned (OpenSpec.ofChange fnCruelRequestsWrong)

/-- 'laws.FnGreedyServers': WHATEVER THE INPUT: true; the input reads as it did. -/
def fnGreedyServersSpec : ChangeSpec := { name := "fnGreedyServers", fn := fun _ => fun
  | [d] => { results := [.lit (.bool true)], args := [d] }
  | _ => none }
def fnGreedyServersRow : OpenClaim := { program := "ytmgcfnciejfpbaagreat", sum := "2bc6294143ca02e49be834e9ac415faf57f9193df3d7af823d8f4dacf5870f45", func := "loop.example/g01087/laws.FnGreedyServers", spec := "fnGreedyServers", unfollowed := true, recurses := true, apart := false }
def FnGreedyServersSaid : Prop := fnGreedyServersRow.holds Tryz.pinned (OpenSpec.ofChange fnGreedyServersSpec)

/-- ITS FALSE NEIGHBOUR: 'it returns false'. Refute it at one input. -/
def fnGreedyServersWrong : ChangeSpec := { name := "fnGreedyServers", fn := fun _ => fun
  | [d] => { results := [.lit (.bool false)], args := [d] }
  | _ => none }
def FnGreedyServersWrongFalsely : Prop := fnGreedyServersRow.holds Tryz.pinned (OpenSpec.ofChange fnGreedyServersWrong)

/-- 'laws.FnWorkOptimum': WHATEVER THE INPUT: true; the input reads as it did. -/
def fnWorkOptimumSpec : ChangeSpec := { name := "fnWorkOptimum", fn := fun _ => fun
  | [d] => { results := [.lit (.bool true)], args := [d] }
  | _ => none }
def fnWorkOptimumRow : OpenClaim := { program := "ytmgcfnciejfpbaagreat", sum := "2bc6294143ca02e49be834e9ac415faf57f9193df3d7af823d8f4dacf5870f45", func := "loop.example/g01087/laws.FnWorkOptimum", spec := "fnWorkOptimum", unfollowed := true, recurses := true, apart := false }
def FnWorkOptimumSaid : Prop := fnWorkOptimumRow.holds Tryz.pinned (OpenSpec.ofChange fnWorkOptimumSpec)

/-- ITS FALSE NEIGHBOUR: 'it returns false'. Refute it at one input. -/
def fnWorkOptimumWrong : ChangeSpec := { name := "fnWorkOptimum", fn := fun _ => fun
  | [d] => { results := [.lit (.bool false)], args := [d] }
  | _ => none }
def FnWorkOptimumWrongFalsely : Prop := fnWorkOptimumRow.holds Tryz.pinned (OpenSpec.ofChange fnWorkOptimumWrong)

/-- 'laws.FnWorkAlgorithm': WHATEVER THE INPUT: true; the input reads as it did. -/
def fnWorkAlgorithmSpec : ChangeSpec := { name := "fnWorkAlgorithm", fn := fun _ => fun
  | [d] => { results := [.lit (.bool true)], args := [d] }
  | _ => none }
def fnWorkAlgorithmRow : OpenClaim := { program := "ytmgcfnciejfpbaagreat", sum := "2bc6294143ca02e49be834e9ac415faf57f9193df3d7af823d8f4dacf5870f45", func := "loop.example/g01087/laws.FnWorkAlgorithm", spec := "fnWorkAlgorithm", unfollowed := true, recurses := true, apart := false }
def FnWorkAlgorithmSaid : Prop := fnWorkAlgorithmRow.holds Tryz.pinned (OpenSpec.ofChange fnWorkAlgorithmSpec)

/-- ITS FALSE NEIGHBOUR: 'it returns false'. Refute it at one input. -/
def fnWorkAlgorithmWrong : ChangeSpec := { name := "fnWorkAlgorithm", fn := fun _ => fun
  | [d] => { results := [.lit (.bool false)], args := [d] }
  | _ => none }
def FnWorkAlgorithmWrongFalsely : Prop := fnWorkAlgorithmRow.holds Tryz.pinned (OpenSpec.ofChange fnWorkAlgorithmWrong)

/-- 'laws.FnExchange': WHATEVER THE INPUT: true; the input reads as it did. -/
def fnExchangeSpec : ChangeSpec := { name := "fnExchange", fn := fun _ => fun
  | [d] => { results := [.lit (.bool true)], args := [d] }
  | _ => none }
def fnExchangeRow : OpenClaim := { program := "ytmgcfnciejfpbaagreat", sum := "2bc6294143ca02e49be834e9ac415faf57f9193df3d7af823d8f4dacf5870f45", func := "loop.example/g01087/laws.FnExchange", spec := "fnExchange", unfollowed := true, recurses := true, apart := false }
def FnExchangeSaid : Prop := fnExchangeRow.holds Tryz.pinned (OpenSpec.ofChange fnExchangeSpec)

/-- ITS FALSE NEIGHBOUR: 'it returns false'. Refute it at one input. -/
def fnExchangeWrong : ChangeSpec := { name := "fnExchange", fn := fun _ => fun
  | [d] => { results := [.lit (.bool false)], args := [d] }
  | _ => none }
def FnExchangeWrongFalsely : Prop := fnExchangeRow.holds Tryz.pinned (OpenSpec.ofChange fnExchangeWrong)

/-- 'laws.FnGrowth': WHATEVER THE INPUT: true; the input reads as it did. -/
def fnGrowthSpec : ChangeSpec := { name := "fnGrowth", fn := fun _ => fun
  | [d] => { results := [.lit (.bool true)], args := [d] }
  | _ => none }
def fnGrowthRow : OpenClaim := { program := "ytmgcfnciejfpbaagreat", sum := "2bc6294143ca02e49be834e9ac415faf57f9193df3d7af823d8f4dacf5870f45", func := "loop.example/g01087/laws.FnGrowth", spec := "fnGrowth", unfollowed := true, recurses := true, apart := false }
def FnGrowthSaid : Prop := fnGrowthRow.holds Tryz.pinned (OpenSpec.ofChange fnGrowthSpec)

/-- ITS FALSE NEIGHBOUR: 'it returns false'. Refute it at one input. -/
def fnGrowthWrong : ChangeSpec := { name := "fnGrowth", fn := fun _ => fun
  | [d] => { results := [.lit (.bool false)], args := [d] }
  | _ => none }
def FnGrowthWrongFalsely : Prop := fnGrowthRow.holds Tryz.pinned (OpenSpec.ofChange fnGrowthWrong)

/- THE SECOND FORM. 'bulk': how many values and letters a reading holds, each counted each time it is reached (what is shared counts as often as it is met; a slice's spare places count too). A statement '..UptoSaid' is the law's where the arguments, and the package variables that the reading takes, are together of bulk at most 1048576: NARROWER than '..Said'. Prove '..Said' where nothing that the law and all that it calls make is longer than what came in: it says more and counts as full. Else prove '..UptoSaid'. A law counts once. -/
mutual
def uptoBulk {H : Type} : DataW H → Nat
  | .lit (.string bytes) => bytes.length + 1
  | .lit _ => 1
  | .nil => 1
  | .ptr d => uptoBulk d + 1
  | .slice elems spare => uptoBulkAll elems + uptoBulkAll spare + 1
  | .agg parts => uptoBulkAll parts + 1
  | .iface _ d => uptoBulk d + 1
  | .map entries => uptoBulkEntries entries + 1
  | .held _ => 1
def uptoBulkAll {H : Type} : List (DataW H) → Nat
  | [] => 0
  | d :: r => uptoBulk d + uptoBulkAll r
def uptoBulkEntries {H : Type} : List (Lit × DataW H) → Nat
  | [] => 0
  | x :: r => uptoBulkEntry x + uptoBulkEntries r
def uptoBulkEntry {H : Type} : Lit × DataW H → Nat
  | (.string bytes, d) => bytes.length + uptoBulk d + 1
  | (_, d) => uptoBulk d + 1
 end
def uptoSmall : (H : Type) → List (DataW H) → Bool := fun _ ds => decide (uptoBulkAll ds ≤ 1048576)
def OpenSpec.upto (s : _root_.Go.ChangeSpec) : _root_.Go.OpenSpec := { _root_.Go.OpenSpec.ofChange s with cond := some uptoSmall }

/-- 'laws.FnWorkLists', WHERE WHAT IT READS IS OF BULK AT MOST 1048576: true; the input reads as it did. -/
def fnWorkListsUptoRow : OpenClaim := { program := "ytmgcfnciejfpbaagreat", sum := "2bc6294143ca02e49be834e9ac415faf57f9193df3d7af823d8f4dacf5870f45", func := "loop.example/g01087/laws.FnWorkLists", spec := "fnWorkLists", unfollowed := true, recurses := true, apart := false, narrowed := true }
def FnWorkListsUptoSaid : Prop := fnWorkListsUptoRow.holds Tryz.pinned (OpenSpec.upto fnWorkListsSpec)

/-- 'laws.FnCruelRequests', WHERE WHAT IT READS IS OF BULK AT MOST 1048576: true; the input reads as it did. -/
def fnCruelRequestsUptoRow : OpenClaim := { program := "ytmgcfnciejfpbaagreat", sum := "2bc6294143ca02e49be834e9ac415faf57f9193df3d7af823d8f4dacf5870f45", func := "loop.example/g01087/laws.FnCruelRequests", spec := "fnCruelRequests", unfollowed := true, recurses := true, apart := false, narrowed := true }
def FnCruelRequestsUptoSaid : Prop := fnCruelRequestsUptoRow.holds Tryz.pinned (OpenSpec.upto fnCruelRequestsSpec)

/-- 'laws.FnGreedyServers', WHERE WHAT IT READS IS OF BULK AT MOST 1048576: true; the input reads as it did. -/
def fnGreedyServersUptoRow : OpenClaim := { program := "ytmgcfnciejfpbaagreat", sum := "2bc6294143ca02e49be834e9ac415faf57f9193df3d7af823d8f4dacf5870f45", func := "loop.example/g01087/laws.FnGreedyServers", spec := "fnGreedyServers", unfollowed := true, recurses := true, apart := false, narrowed := true }
def FnGreedyServersUptoSaid : Prop := fnGreedyServersUptoRow.holds Tryz.pinned (OpenSpec.upto fnGreedyServersSpec)

/-- 'laws.FnWorkOptimum', WHERE WHAT IT READS IS OF BULK AT MOST 1048576: true; the input reads as it did. -/
def fnWorkOptimumUptoRow : OpenClaim := { program := "ytmgcfnciejfpbaagreat", sum := "2bc6294143ca02e49be834e9ac415faf57f9193df3d7af823d8f4dacf5870f45", func := "loop.example/g01087/laws.FnWorkOptimum", spec := "fnWorkOptimum", unfollowed := true, recurses := true, apart := false, narrowed := true }
def FnWorkOptimumUptoSaid : Prop := fnWorkOptimumUptoRow.holds Tryz.pinned (OpenSpec.upto fnWorkOptimumSpec)

/-- 'laws.FnWorkAlgorithm', WHERE WHAT IT READS IS OF BULK AT MOST 1048576: true; the input reads as it did. -/
def fnWorkAlgorithmUptoRow : OpenClaim := { program := "ytmgcfnciejfpbaagreat", sum := "2bc6294143ca02e49be834e9ac415faf57f9193df3d7af823d8f4dacf5870f45", func := "loop.example/g01087/laws.FnWorkAlgorithm", spec := "fnWorkAlgorithm", unfollowed := true, recurses := true, apart := false, narrowed := true }
def FnWorkAlgorithmUptoSaid : Prop := fnWorkAlgorithmUptoRow.holds Tryz.pinned (OpenSpec.upto fnWorkAlgorithmSpec)

/-- 'laws.FnExchange', WHERE WHAT IT READS IS OF BULK AT MOST 1048576: true; the input reads as it did. -/
def fnExchangeUptoRow : OpenClaim := { program := "ytmgcfnciejfpbaagreat", sum := "2bc6294143ca02e49be834e9ac415faf57f9193df3d7af823d8f4dacf5870f45", func := "loop.example/g01087/laws.FnExchange", spec := "fnExchange", unfollowed := true, recurses := true, apart := false, narrowed := true }
def FnExchangeUptoSaid : Prop := fnExchangeUptoRow.holds Tryz.pinned (OpenSpec.upto fnExchangeSpec)

/-- 'laws.FnGrowth', WHERE WHAT IT READS IS OF BULK AT MOST 1048576: true; the input reads as it did. -/
def fnGrowthUptoRow : OpenClaim := { program := "ytmgcfnciejfpbaagreat", sum := "2bc6294143ca02e49be834e9ac415faf57f9193df3d7af823d8f4dacf5870f45", func := "loop.example/g01087/laws.FnGrowth", spec := "fnGrowth", unfollowed := true, recurses := true, apart := false, narrowed := true }
def FnGrowthUptoSaid : Prop := fnGrowthUptoRow.holds Tryz.pinned (OpenSpec.upto fnGrowthSpec)

end Rows
end Go.Proofs.YtmgcfnciejfpbaaGreat
