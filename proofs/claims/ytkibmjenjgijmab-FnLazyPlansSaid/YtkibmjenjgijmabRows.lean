/-
  No cell of these rows narrows 'for every input' (looked for: loops, veiled, ifaces, maps, wideKeys, modest, calm, conditions, laid).
  DERIVED. THE GIVEN ROWS OF THIS SEAT. 3 by the template 'for every input the law returns true; each argument reads behind the call as it read before'; 0 by the template 'total and deterministic' (their statements: YtkibmjenjgijmabTotals.lean).
  GIVEN WITH THE SEED: the statements are not yours to turn. If you find one false, say at which input.
  Laid BY PROGRAM, IN A SANDBOX (cutbox-rows.mjs): the forced cells as the released guide's own fill.sh prints them over the translation 5b6567d633eac256… (all of the seat's roots in one cut). By AI agents, Wed Nov 11 2026. No macro, syntax, notation, axiom, sorry.
-/
import Derived.Test.YtkibmjenjgijmabChecked
import GoSem.Claim
import GoSem.ClaimJoined
import GoSem.ClaimMapViews
import Derived.JoinedTies
import Derived.KernelRfl
namespace Go.Proofs.Ytkibmjenjgijmab
/- THE CELL 'sum', in the pinned program and in every row, IS THE sha256 OF THE DUMP (.gsa) THAT YtkibmjenjgijmabProg.lean LOADS. Nothing in Lean hashes anything: it is a label: what it is worth is what the hold of that sum in a sandbox is worth. -/
noncomputable def Try.pinned : Pinned := { name := "ytkibmjenjgijmab", sum := "5b6567d633eac25692e3d2c8537bf667fd1730a5ca2a2b7b16fac3b606656b89", checked := Try.checked }
namespace Rows
def none {H : Type} : Left H := { results := [], args := [] }

/-- 'laws.FnExactMarksBound': WHATEVER THE INPUT: true; the input reads as it did. -/
def fnExactMarksBoundSpec : ChangeSpec := { name := "fnExactMarksBound", fn := fun _ => fun
  | [d1, d2, d3, d4] => { results := [.lit (.bool true)], args := [d1, d2, d3, d4] }
  | _ => none }
def fnExactMarksBoundRow : OpenClaim := { program := "ytkibmjenjgijmab", sum := "5b6567d633eac25692e3d2c8537bf667fd1730a5ca2a2b7b16fac3b606656b89", func := "loop.example/g01087/laws.FnExactMarksBound", spec := "fnExactMarksBound", unfollowed := true, recurses := true, apart := false }
def FnExactMarksBoundSaid : Prop := fnExactMarksBoundRow.holds Try.pinned (OpenSpec.ofChange fnExactMarksBoundSpec)

/-- ITS FALSE NEIGHBOUR: 'it returns false'. Refute it at one input. -/
def fnExactMarksBoundWrong : ChangeSpec := { name := "fnExactMarksBound", fn := fun _ => fun
  | [d1, d2, d3, d4] => { results := [.lit (.bool false)], args := [d1, d2, d3, d4] }
  | _ => none }
def FnExactMarksBoundWrongFalsely : Prop := fnExactMarksBoundRow.holds Try.pinned (OpenSpec.ofChange fnExactMarksBoundWrong)

/-- 'laws.FnCurve': WHATEVER THE INPUT: true; the input reads as it did. -/
def fnCurveSpec : ChangeSpec := { name := "fnCurve", fn := fun _ => fun
  | [d] => { results := [.lit (.bool true)], args := [d] }
  | _ => none }
def fnCurveRow : OpenClaim := { program := "ytkibmjenjgijmab", sum := "5b6567d633eac25692e3d2c8537bf667fd1730a5ca2a2b7b16fac3b606656b89", func := "loop.example/g01087/laws.FnCurve", spec := "fnCurve", unfollowed := true, recurses := true, apart := false }
def FnCurveSaid : Prop := fnCurveRow.holds Try.pinned (OpenSpec.ofChange fnCurveSpec)

/-- ITS FALSE NEIGHBOUR: 'it returns false'. Refute it at one input. -/
def fnCurveWrong : ChangeSpec := { name := "fnCurve", fn := fun _ => fun
  | [d] => { results := [.lit (.bool false)], args := [d] }
  | _ => none }
def FnCurveWrongFalsely : Prop := fnCurveRow.holds Try.pinned (OpenSpec.ofChange fnCurveWrong)

/-- 'laws.FnLazyPlans': WHATEVER THE INPUT: true; the input reads as it did. -/
def fnLazyPlansSpec : ChangeSpec := { name := "fnLazyPlans", fn := fun _ => fun
  | [d] => { results := [.lit (.bool true)], args := [d] }
  | _ => none }
def fnLazyPlansRow : OpenClaim := { program := "ytkibmjenjgijmab", sum := "5b6567d633eac25692e3d2c8537bf667fd1730a5ca2a2b7b16fac3b606656b89", func := "loop.example/g01087/laws.FnLazyPlans", spec := "fnLazyPlans", unfollowed := true, recurses := true, apart := false }
def FnLazyPlansSaid : Prop := fnLazyPlansRow.holds Try.pinned (OpenSpec.ofChange fnLazyPlansSpec)

/-- ITS FALSE NEIGHBOUR: 'it returns false'. Refute it at one input. -/
def fnLazyPlansWrong : ChangeSpec := { name := "fnLazyPlans", fn := fun _ => fun
  | [d] => { results := [.lit (.bool false)], args := [d] }
  | _ => none }
def FnLazyPlansWrongFalsely : Prop := fnLazyPlansRow.holds Try.pinned (OpenSpec.ofChange fnLazyPlansWrong)

/- THE SECOND FORM. 'bulk': how many values and letters a reading holds, each counted each time it is reached (what is shared counts as often as it is met; a slice's spare places count too). A statement '..UptoSaid' is the law's where the arguments, and the package variables that the reading takes, are together of bulk at most 1048576: NARROWER than '..Said'. Prove '..Said' where nothing that the law and all that it calls make is longer than what came in: it says more and counts as full. Else prove '..UptoSaid'. A law counts once. -/
mutual
def uptoBulk {H : Type} : DataW H → Nat
  | .lit (.string bytes) => bytes.length + 1
  | .lit _ => 1
  | .nil => 1
  | .ptr d => uptoBulk d + 1
  | .slice elems spare => uptoBulkAll elems + uptoBulkAll spare + 1
  | .agg parts => uptoBulkAll parts + 1
  | .iface _ d => uptoBulk d + 1
  | .map entries => uptoBulkEntries entries + 1
  | .held _ => 1
def uptoBulkAll {H : Type} : List (DataW H) → Nat
  | [] => 0
  | d :: r => uptoBulk d + uptoBulkAll r
def uptoBulkEntries {H : Type} : List (Lit × DataW H) → Nat
  | [] => 0
  | x :: r => uptoBulkEntry x + uptoBulkEntries r
def uptoBulkEntry {H : Type} : Lit × DataW H → Nat
  | (.string bytes, d) => bytes.length + uptoBulk d + 1
  | (_, d) => uptoBulk d + 1
 end
def uptoSmall : (H : Type) → List (DataW H) → Bool := fun _ ds => decide (uptoBulkAll ds ≤ 1048576)
def OpenSpec.upto (s : _root_.Go.ChangeSpec) : _root_.Go.OpenSpec := { _root_.Go.OpenSpec.ofChange s with cond := some uptoSmall }

/-- 'laws.FnExactMarksBound', WHERE WHAT IT READS IS OF BULK AT MOST 1048576: true; the input reads as it did. -/
def fnExactMarksBoundUptoRow : OpenClaim := { program := "ytkibmjenjgijmab", sum := "5b6567d633eac25692e3d2c8537bf667fd1730a5ca2a2b7b16fac3b606656b89", func := "loop.example/g01087/laws.FnExactMarksBound", spec := "fnExactMarksBound", unfollowed := true, recurses := true, apart := false, narrowed := true }
def FnExactMarksBoundUptoSaid : Prop := fnExactMarksBoundUptoRow.holds Try.pinned (OpenSpec.upto fnExactMarksBoundSpec)

/-- 'laws.FnCurve', WHERE WHAT IT READS IS OF BULK AT MOST 1048576: true; the input reads as it did. -/
def fnCurveUptoRow : OpenClaim := { program := "ytkibmjenjgijmab", sum := "5b6567d633eac25692e3d2c8537bf667fd1730a5ca2a2b7b16fac3b606656b89", func := "loop.example/g01087/laws.FnCurve", spec := "fnCurve", unfollowed := true, recurses := true, apart := false, narrowed := true }
def FnCurveUptoSaid : Prop := fnCurveUptoRow.holds Try.pinned (OpenSpec.upto fnCurveSpec)

/-- 'laws.FnLazyPlans', WHERE WHAT IT READS IS OF BULK AT MOST 1048576: true; the input reads as it did. -/
def fnLazyPlansUptoRow : OpenClaim := { program := "ytkibmjenjgijmab", sum := "5b6567d633eac25692e3d2c8537bf667fd1730a5ca2a2b7b16fac3b606656b89", func := "loop.example/g01087/laws.FnLazyPlans", spec := "fnLazyPlans", unfollowed := true, recurses := true, apart := false, narrowed := true }
def FnLazyPlansUptoSaid : Prop := fnLazyPlansUptoRow.holds Try.pinned (OpenSpec.upto fnLazyPlansSpec)

end Rows
end Go.Proofs.Ytkibmjenjgijmab
