/-
  No cell of these rows narrows 'for every input' (looked for: loops, veiled, ifaces, maps, wideKeys, modest, calm, conditions, laid).
  DERIVED. THE GIVEN ROWS OF THIS SEAT. 5 by the template 'for every input the law returns true; each argument reads behind the call as it read before'; 0 by the template 'total and deterministic' (their statements: YtpiplhgiphndeaaGreatTotals.lean).
  GIVEN WITH THE SEED: the statements are not yours to turn. If you find one false, say at which input.
  Laid BY PROGRAM, IN A SANDBOX (cutbox-rows.mjs): the forced cells as the released guide's own fill.sh prints them over the translation 2ba750c7b12c9507… (all of the seat's roots in one cut). By AI agents, Wed Nov 11 2026. No macro, syntax, notation, axiom, sorry.
-/
import Derived.Test.YtpiplhgiphndeaaGreatChecked
import GoSem.Claim
import GoSem.ClaimJoined
import GoSem.ClaimMapViews
import Derived.JoinedTies
import Derived.KernelRfl
namespace Go.Proofs.YtpiplhgiphndeaaGreat
/- THE CELL 'sum', in the pinned program and in every row, IS THE sha256 OF THE DUMP (.gsa) THAT YtpiplhgiphndeaaGreatProg.lean LOADS. Nothing in Lean hashes anything: it is a label: what it is worth is what the hold of that sum in a sandbox is worth. -/
noncomputable def Tryz.pinned : Pinned := { name := "ytpiplhgiphndeaagreat", sum := "2ba750c7b12c950717b15ca66fccca12c51843649a3249e2561296e60da52aa2", checked := Tryz.checked }
namespace Rows
def none {H : Type} : Left H := { results := [], args := [] }

/-- 'laws.FnExactWorkServe': WHATEVER THE INPUT: true; the input reads as it did. -/
def fnExactWorkServeSpec : ChangeSpec := { name := "fnExactWorkServe", fn := fun _ => fun
  | [d1, d2, d3, d4, d5] => { results := [.lit (.bool true)], args := [d1, d2, d3, d4, d5] }
  | _ => none }
def fnExactWorkServeRow : OpenClaim := { program := "ytpiplhgiphndeaagreat", sum := "2ba750c7b12c950717b15ca66fccca12c51843649a3249e2561296e60da52aa2", func := "loop.example/g01087/laws.FnExactWorkServe", spec := "fnExactWorkServe", unfollowed := true, recurses := true, apart := false }
def FnExactWorkServeSaid : Prop := fnExactWorkServeRow.holds Tryz.pinned (OpenSpec.ofChange fnExactWorkServeSpec)

/-- ITS FALSE NEIGHBOUR: 'it returns false'. Refute it at one input. -/
def fnExactWorkServeWrong : ChangeSpec := { name := "fnExactWorkServe", fn := fun _ => fun
  | [d1, d2, d3, d4, d5] => { results := [.lit (.bool false)], args := [d1, d2, d3, d4, d5] }
  | _ => none }
def FnExactWorkServeWrongFalsely : Prop := fnExactWorkServeRow.holds Tryz.pinned (OpenSpec.ofChange fnExactWorkServeWrong)

/-- 'laws.FnGreedyServers': WHATEVER THE INPUT: true; the input reads as it did. -/
def fnGreedyServersSpec : ChangeSpec := { name := "fnGreedyServers", fn := fun _ => fun
  | [d] => { results := [.lit (.bool true)], args := [d] }
  | _ => none }
def fnGreedyServersRow : OpenClaim := { program := "ytpiplhgiphndeaagreat", sum := "2ba750c7b12c950717b15ca66fccca12c51843649a3249e2561296e60da52aa2", func := "loop.example/g01087/laws.FnGreedyServers", spec := "fnGreedyServers", unfollowed := true, recurses := true, apart := false }
def FnGreedyServersSaid : Prop := fnGreedyServersRow.holds Tryz.pinned (OpenSpec.ofChange fnGreedyServersSpec)

/-- ITS FALSE NEIGHBOUR: 'it returns false'. Refute it at one input. -/
def fnGreedyServersWrong : ChangeSpec := { name := "fnGreedyServers", fn := fun _ => fun
  | [d] => { results := [.lit (.bool false)], args := [d] }
  | _ => none }
def FnGreedyServersWrongFalsely : Prop := fnGreedyServersRow.holds Tryz.pinned (OpenSpec.ofChange fnGreedyServersWrong)

/-- 'laws.FnWorkLists': WHATEVER THE INPUT: true; the input reads as it did. -/
def fnWorkListsSpec : ChangeSpec := { name := "fnWorkLists", fn := fun _ => fun
  | [d] => { results := [.lit (.bool true)], args := [d] }
  | _ => none }
def fnWorkListsRow : OpenClaim := { program := "ytpiplhgiphndeaagreat", sum := "2ba750c7b12c950717b15ca66fccca12c51843649a3249e2561296e60da52aa2", func := "loop.example/g01087/laws.FnWorkLists", spec := "fnWorkLists", unfollowed := true, recurses := true, apart := false }
def FnWorkListsSaid : Prop := fnWorkListsRow.holds Tryz.pinned (OpenSpec.ofChange fnWorkListsSpec)

/-- ITS FALSE NEIGHBOUR: 'it returns false'. Refute it at one input. -/
def fnWorkListsWrong : ChangeSpec := { name := "fnWorkLists", fn := fun _ => fun
  | [d] => { results := [.lit (.bool false)], args := [d] }
  | _ => none }
def FnWorkListsWrongFalsely : Prop := fnWorkListsRow.holds Tryz.pinned (OpenSpec.ofChange fnWorkListsWrong)

/-- 'laws.FnCruelRequests': WHATEVER THE INPUT: true; the input reads as it did. -/
def fnCruelRequestsSpec : ChangeSpec := { name := "fnCruelRequests", fn := fun _ => fun
  | [d] => { results := [.lit (.bool true)], args := [d] }
  | _ => none }
def fnCruelRequestsRow : OpenClaim := { program := "ytpiplhgiphndeaagreat", sum := "2ba750c7b12c950717b15ca66fccca12c51843649a3249e2561296e60da52aa2", func := "loop.example/g01087/laws.FnCruelRequests", spec := "fnCruelRequests", unfollowed := true, recurses := true, apart := false }
def FnCruelRequestsSaid : Prop := fnCruelRequestsRow.holds Tryz.pinned (OpenSpec.ofChange fnCruelRequestsSpec)

/-- ITS FALSE NEIGHBOUR: 'it returns false'. Refute it at one input. -/
def fnCruelRequestsWrong : ChangeSpec := { name := "fnCruelRequests", fn := fun _ => fun
  | [d] => { results := [.lit (.bool false)], args := [d] }
  | _ => none }
def FnCruelRequestsWrongFalsely : Prop := fnCruelRequestsRow.holds Tryz.pinned (OpenSpec.ofChange fnCruelRequestsWrong)

/-- 'laws.FnWorkOptimum': WHATEVER THE INPUT: true; the input reads as it did. -/
def fnWorkOptimumSpec : ChangeSpec := { name := "fnWorkOptimum", fn := fun _ => fun
  | [d] => { results := [.lit (.bool true)], args := [d] }
  | _ => none }
def fnWorkOptimumRow : OpenClaim := { program := "ytpiplhgiphndeaagreat", sum := "2ba750c7b12c950717b15ca66fccca12c51843649a3249e2561296e60da52aa2", func := "loop.example/g01087/laws.FnWorkOptimum", spec := "fnWorkOptimum", unfollowed := true, recurses := true, apart := false }
def FnWorkOptimumSaid : Prop := fnWorkOptimumRow.holds Tryz.pinned (OpenSpec.ofChange fnWorkOptimumSpec)

/-- ITS FALSE NEIGHBOUR: 'it returns false'. Refute it at one input. -/
def fnWorkOptimumWrong : ChangeSpec := { name := "fnWorkOptimum", fn := fun _ => fun
  | [d] => { results := [.lit (.bool false)], args := [d] }
  | _ => none }
def FnWorkOptimumWrongFalsely : Prop := fnWorkOptimumRow.holds Tryz.pinned (OpenSpec.ofChange fnWorkOptimumWrong)

/- THE SECOND FORM. 'bulk': how many values and letters a reading holds, each counted each time it is reached (what is shared counts as often as it is met; a slice's spare places count too). A statement '..UptoSaid' is the law's where the arguments, and the package variables that the reading takes, are together of bulk at most 1048576: NARROWER than '..Said'. Prove '..Said' where nothing that the law and all that it calls make is longer than what came in: it says more and counts as full. Else prove '..UptoSaid'. A law counts once. -/
mutual
def uptoBulk {H : Type} : DataW H → Nat
  | .lit (.string bytes) => bytes.length + 1
  | .lit _ => 1
  | .nil => 1
  | .ptr d => uptoBulk d + 1
  | .slice elems spare => uptoBulkAll elems + uptoBulkAll spare + 1
  | .agg parts => uptoBulkAll parts + 1
  | .iface _ d => uptoBulk d + 1
  | .map entries => uptoBulkEntries entries + 1
  | .held _ => 1
def uptoBulkAll {H : Type} : List (DataW H) → Nat
  | [] => 0
  | d :: r => uptoBulk d + uptoBulkAll r
def uptoBulkEntries {H : Type} : List (Lit × DataW H) → Nat
  | [] => 0
  | x :: r => uptoBulkEntry x + uptoBulkEntries r
def uptoBulkEntry {H : Type} : Lit × DataW H → Nat
  | (.string bytes, d) => bytes.length + uptoBulk d + 1
  | (_, d) => uptoBulk d + 1
 end
def uptoSmall : (H : Type) → List (DataW H) → Bool := fun _ ds => decide (uptoBulkAll ds ≤ 1048576)
def OpenSpec.upto (s : _root_.Go.ChangeSpec) : _root_.Go.OpenSpec := { _root_.Go.OpenSpec.ofChange s with cond := some uptoSmall }

/-- 'laws.FnExactWorkServe', WHERE WHAT IT READS IS OF BULK AT MOST 1048576: true; the input reads as it did. -/
def fnExactWorkServeUptoRow : OpenClaim := { program := "ytpiplhgiphndeaagreat", sum := "2ba750c7b12c950717b15ca66fccca12c51843649a3249e2561296e60da52aa2", func := "loop.example/g01087/laws.FnExactWorkServe", spec := "fnExactWorkServe", unfollowed := true, recurses := true, apart := false, narrowed := true }
def FnExactWorkServeUptoSaid : Prop := fnExactWorkServeUptoRow.holds Tryz.pinned (OpenSpec.upto fnExactWorkServeSpec)

/-- 'laws.FnGreedyServers', WHERE WHAT IT READS IS OF BULK AT MOST 1048576: true; the input reads as it did. -/
def fnGreedyServersUptoRow : OpenClaim := { program := "ytpiplhgiphndeaagreat", sum := "2ba750c7b12c950717b15ca66fccca12c51843649a3249e2561296e60da52aa2", func := "loop.example/g01087/laws.FnGreedyServers", spec := "fnGreedyServers", unfollowed := true, recurses := true, apart := false, narrowed := true }
def FnGreedyServersUptoSaid : Prop := fnGreedyServersUptoRow.holds Tryz.pinned (OpenSpec.upto fnGreedyServersSpec)

/-- 'laws.FnWorkLists', WHERE WHAT IT READS IS OF BULK AT MOST 1048576: true; the input reads as it did. -/
def fnWorkListsUptoRow : OpenClaim := { program := "ytpiplhgiphndeaagreat", sum := "2ba750c7b12c950717b15ca66fccca12c51843649a3249e2561296e60da52aa2", func := "loop.example/g01087/laws.FnWorkLists", spec := "fnWorkLists", unfollowed := true, recurses := true, apart := false, narrowed := true }
def FnWorkListsUptoSaid : Prop := fnWorkListsUptoRow.holds Tryz.pinned (OpenSpec.upto fnWorkListsSpec)

/-- 'laws.FnCruelRequests', WHERE WHAT IT READS IS OF BULK AT MOST 1048576: true; the input reads as it did. -/
def fnCruelRequestsUptoRow : OpenClaim := { program := "ytpiplhgiphndeaagreat", sum := "2ba750c7b12c950717b15ca66fccca12c51843649a3249e2561296e60da52aa2", func := "loop.example/g01087/laws.FnCruelRequests", spec := "fnCruelRequests", unfollowed := true, recurses := true, apart := false, narrowed := true }
def FnCruelRequestsUptoSaid : Prop := fnCruelRequestsUptoRow.holds Tryz.pinned (OpenSpec.upto fnCruelRequestsSpec)

/-- 'laws.FnWorkOptimum', WHERE WHAT IT READS IS OF BULK AT MOST 1048576: true; the input reads as it did. -/
def fnWorkOptimumUptoRow : OpenClaim := { program := "ytpiplhgiphndeaagreat", sum := "2ba750c7b12c950717b15ca66fccca12c51843649a3249e2561296e60da52aa2", func := "loop.example/g01087/laws.FnWorkOptimum", spec := "fnWorkOptimum", unfollowed := true, recurses := true, apart := false, narrowed := true }
def FnWorkOptimumUptoSaid : Prop := fnWorkOptimumUptoRow.holds Tryz.pinned (OpenSpec.upto fnWorkOptimumSpec)

end Rows
end Go.Proofs.YtpiplhgiphndeaaGreat
