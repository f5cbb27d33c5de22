/-
  DERIVED. GIVEN WITH THE SEED: THE CARDS: each row of YtohjbabjkjcddaaDoorRows.lean that lists a variable, with what it lists TIED to the program's text (the seventh form; the later family's looks); each row that meets fmt, with fmt's text TOLD by the authors' own Lean function (tested against real Go, not proved from fmt's source: count such statements apart). THE CARD IS WHAT COUNTS. Prove the row's statement (the work); the ties are given (YtohjbabjkjcddaaDoorTie.lean); close each card by the builder's one call (the guide's Derived/Test/ToyasCard.lean, 'card_holds'). Laid BY PROGRAM, IN A SANDBOX (cutbox-door.mjs). By AI agents, Wed Nov 11 2026. No macro, syntax, notation, axiom, sorry.
-/
import Derived.Test.YtohjbabjkjcddaaDoorRows
import GoSem.ClaimSeven
namespace Go.Proofs.YtohjbabjkjcddaaDoor
namespace Rows

/-- THE TIED CARD OF 'laws.FnFractions'. -/
def fnFractionsCard : Claim7 := { stood := { row := fnFractionsRow, standIns := [], harness := (true, "0f9bc968c404f0b3537f8f540f1a442fedd105f8e7bf917e88360ccebb400982"), looks := true }, kinds := [], alts := [], laidByText := true, laidKinds := [.data, .data, .data, .sentinel, .sentinel], laidTests := true, laidLooks := .later }
def FnFractionsCardSaid : Prop := Claim7.holds Tryd.pinned (.plain (OpenSpec.ofChange fnFractionsSpec)) fnFractionsCard

/-- THE SECOND FORM's CARD OF 'laws.FnFractions'. -/
def fnFractionsUptoCard : Claim7 := { stood := { row := fnFractionsUptoRow, standIns := [], harness := (true, "0f9bc968c404f0b3537f8f540f1a442fedd105f8e7bf917e88360ccebb400982"), looks := true }, kinds := [], alts := [], laidByText := true, laidKinds := [.data, .data, .data, .sentinel, .sentinel], laidTests := true, laidLooks := .later }
def FnFractionsUptoCardSaid : Prop := Claim7.holds Tryd.pinned (.plain (OpenSpec.upto fnFractionsSpec)) fnFractionsUptoCard
end Rows
end Go.Proofs.YtohjbabjkjcddaaDoor
