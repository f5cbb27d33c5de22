/-
  DERIVED. GIVEN WITH THE SEED: THE CARDS: each row of YtdohjmbhgjfcaaaDoorRows.lean that lists a variable, with what it lists TIED to the program's text (the seventh form; the later family's looks); each row that meets fmt, with fmt's text TOLD by the authors' own Lean function (tested against real Go, not proved from fmt's source: count such statements apart). THE CARD IS WHAT COUNTS. Prove the row's statement (the work); the ties are given (YtdohjmbhgjfcaaaDoorTie.lean); close each card by the builder's one call (the guide's Derived/Test/ToyasCard.lean, 'card_holds'). Laid BY PROGRAM, IN A SANDBOX (cutbox-door.mjs). By AI agents, Wed Nov 11 2026. No macro, syntax, notation, axiom, sorry.
-/
import Derived.Test.YtdohjmbhgjfcaaaDoorRows
import GoSem.ClaimSeven
namespace Go.Proofs.YtdohjmbhgjfcaaaDoor
namespace Rows

/-- THE TIED CARD OF 'laws.FnStrings'. -/
def fnStringsCard : Claim7 := { stood := { row := fnStringsRow, standIns := [], harness := (true, "4a96e569d64017ea47c089ccbf86547a824ff699f9b4509091682e60e9711e3a"), looks := true }, kinds := [], alts := [], laidByText := true, laidKinds := [.data, .data, .data, .sentinel, .sentinel], laidTests := true, laidLooks := .later }
def FnStringsCardSaid : Prop := Claim7.holds Tryd.pinned (.plain (OpenSpec.ofChange fnStringsSpec)) fnStringsCard

/-- THE TIED CARD OF 'laws.FnExactProblemText'. -/
def fnExactProblemTextCard : Claim7 := { stood := { row := fnExactProblemTextRow, standIns := [], harness := (true, "4a96e569d64017ea47c089ccbf86547a824ff699f9b4509091682e60e9711e3a"), looks := true }, kinds := [], alts := [], laidByText := true, laidKinds := [.data, .data, .data, .data, .pinned], laidTests := true, laidLooks := .later }
def FnExactProblemTextCardSaid : Prop := Claim7.holds Tryd.pinned (.plain (OpenSpec.ofChange fnExactProblemTextSpec)) fnExactProblemTextCard

/-- THE TIED CARD OF 'laws.FnRequestTexts'. -/
def fnRequestTextsCard : Claim7 := { stood := { row := fnRequestTextsRow, standIns := [], harness := (true, "4a96e569d64017ea47c089ccbf86547a824ff699f9b4509091682e60e9711e3a"), looks := true }, kinds := [], alts := [], laidByText := true, laidKinds := [.data, .data, .data, .sentinel, .sentinel], laidTests := true, laidLooks := .later }
def FnRequestTextsCardSaid : Prop := Claim7.holds Tryd.pinned (.plain (OpenSpec.ofChange fnRequestTextsSpec)) fnRequestTextsCard

/-- THE TIED CARD OF 'laws.FnFractions'. -/
def fnFractionsCard : Claim7 := { stood := { row := fnFractionsRow, standIns := [], harness := (true, "4a96e569d64017ea47c089ccbf86547a824ff699f9b4509091682e60e9711e3a"), looks := true }, kinds := [], alts := [], laidByText := true, laidKinds := [.data, .data, .data, .sentinel, .sentinel], laidTests := true, laidLooks := .later }
def FnFractionsCardSaid : Prop := Claim7.holds Tryd.pinned (.plain (OpenSpec.ofChange fnFractionsSpec)) fnFractionsCard

/-- THE SECOND FORM's CARD OF 'laws.FnStrings'. -/
def fnStringsUptoCard : Claim7 := { stood := { row := fnStringsUptoRow, standIns := [], harness := (true, "4a96e569d64017ea47c089ccbf86547a824ff699f9b4509091682e60e9711e3a"), looks := true }, kinds := [], alts := [], laidByText := true, laidKinds := [.data, .data, .data, .sentinel, .sentinel], laidTests := true, laidLooks := .later }
def FnStringsUptoCardSaid : Prop := Claim7.holds Tryd.pinned (.plain (OpenSpec.upto fnStringsSpec)) fnStringsUptoCard

/-- THE SECOND FORM's CARD OF 'laws.FnExactProblemText'. -/
def fnExactProblemTextUptoCard : Claim7 := { stood := { row := fnExactProblemTextUptoRow, standIns := [], harness := (true, "4a96e569d64017ea47c089ccbf86547a824ff699f9b4509091682e60e9711e3a"), looks := true }, kinds := [], alts := [], laidByText := true, laidKinds := [.data, .data, .data, .data, .pinned], laidTests := true, laidLooks := .later }
def FnExactProblemTextUptoCardSaid : Prop := Claim7.holds Tryd.pinned (.plain (OpenSpec.upto fnExactProblemTextSpec)) fnExactProblemTextUptoCard

/-- THE SECOND FORM's CARD OF 'laws.FnRequestTexts'. -/
def fnRequestTextsUptoCard : Claim7 := { stood := { row := fnRequestTextsUptoRow, standIns := [], harness := (true, "4a96e569d64017ea47c089ccbf86547a824ff699f9b4509091682e60e9711e3a"), looks := true }, kinds := [], alts := [], laidByText := true, laidKinds := [.data, .data, .data, .sentinel, .sentinel], laidTests := true, laidLooks := .later }
def FnRequestTextsUptoCardSaid : Prop := Claim7.holds Tryd.pinned (.plain (OpenSpec.upto fnRequestTextsSpec)) fnRequestTextsUptoCard

/-- THE SECOND FORM's CARD OF 'laws.FnFractions'. -/
def fnFractionsUptoCard : Claim7 := { stood := { row := fnFractionsUptoRow, standIns := [], harness := (true, "4a96e569d64017ea47c089ccbf86547a824ff699f9b4509091682e60e9711e3a"), looks := true }, kinds := [], alts := [], laidByText := true, laidKinds := [.data, .data, .data, .sentinel, .sentinel], laidTests := true, laidLooks := .later }
def FnFractionsUptoCardSaid : Prop := Claim7.holds Tryd.pinned (.plain (OpenSpec.upto fnFractionsSpec)) fnFractionsUptoCard
end Rows
end Go.Proofs.YtdohjmbhgjfcaaaDoor
