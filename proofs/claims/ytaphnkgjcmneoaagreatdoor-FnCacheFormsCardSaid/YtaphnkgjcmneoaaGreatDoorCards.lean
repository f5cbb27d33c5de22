/-
  DERIVED. GIVEN WITH THE SEED: THE CARDS: each row of YtaphnkgjcmneoaaGreatDoorRows.lean that lists a variable, with what it lists TIED to the program's text (the seventh form; the later family's looks); each row that meets fmt, with fmt's text TOLD by the authors' own Lean function (tested against real Go, not proved from fmt's source: count such statements apart). THE CARD IS WHAT COUNTS. Prove the row's statement (the work); the ties are given (YtaphnkgjcmneoaaGreatDoorTie.lean); close each card by the builder's one call (the guide's Derived/Test/ToyasCard.lean, 'card_holds'). Laid BY PROGRAM, IN A SANDBOX (cutbox-door.mjs). By AI agents, Wed Nov 11 2026. No macro, syntax, notation, axiom, sorry.
-/
import Derived.Test.YtaphnkgjcmneoaaGreatDoorRows
import GoSem.ClaimSeven
namespace Go.Proofs.YtaphnkgjcmneoaaGreatDoor
namespace Rows

/-- THE TIED CARD OF 'laws.FnCacheForms'. -/
def fnCacheFormsCard : Claim7 := { stood := { row := fnCacheFormsRow, standIns := [], harness := (true, "997464e64d3ce1a75823c1152ff428c70fcee0b92ee624301cc10d6975a267f8"), looks := true }, kinds := [], alts := [], laidByText := true, laidKinds := [.data, .data, .data, .data, .sentinel, .sentinel, .pinned], laidTests := true, laidLooks := .later }
def FnCacheFormsCardSaid : Prop := Claim7.holds Tryz.pinned (.plain (OpenSpec.ofChange fnCacheFormsSpec)) fnCacheFormsCard

/-- THE SECOND FORM's CARD OF 'laws.FnCacheForms'. -/
def fnCacheFormsUptoCard : Claim7 := { stood := { row := fnCacheFormsUptoRow, standIns := [], harness := (true, "997464e64d3ce1a75823c1152ff428c70fcee0b92ee624301cc10d6975a267f8"), looks := true }, kinds := [], alts := [], laidByText := true, laidKinds := [.data, .data, .data, .data, .sentinel, .sentinel, .pinned], laidTests := true, laidLooks := .later }
def FnCacheFormsUptoCardSaid : Prop := Claim7.holds Tryz.pinned (.plain (OpenSpec.upto fnCacheFormsSpec)) fnCacheFormsUptoCard
end Rows
end Go.Proofs.YtaphnkgjcmneoaaGreatDoor
