/-
  DERIVED. GIVEN WITH THE SEED: THE CARDS: each row of YtenigopoknajgaaGreatDoorRows.lean that lists a variable, with what it lists TIED to the program's text (the seventh form; the later family's looks); each row that meets fmt, with fmt's text TOLD by the authors' own Lean function (tested against real Go, not proved from fmt's source: count such statements apart). THE CARD IS WHAT COUNTS. Prove the row's statement (the work); the ties are given (YtenigopoknajgaaGreatDoorTie.lean); close each card by the builder's one call (the guide's Derived/Test/ToyasCard.lean, 'card_holds'). Laid BY PROGRAM, IN A SANDBOX (cutbox-door.mjs). By AI agents, Wed Nov 11 2026. No macro, syntax, notation, axiom, sorry.
-/
import Derived.Test.YtenigopoknajgaaGreatDoorRows
import GoSem.ClaimSeven
namespace Go.Proofs.YtenigopoknajgaaGreatDoor
namespace Rows

/-- THE TIED CARD OF 'laws.FnExactPrgAlone'. -/
def fnExactPrgAloneCard : Claim7 := { stood := { row := fnExactPrgAloneRow, standIns := [], harness := (true, "782bfa5464586adf11e2e0448b5720d04976d8b599985e2cf1dacaef7633dc7c"), looks := false }, kinds := [], alts := [], laidByText := true, laidKinds := [.data, .pinned], laidTests := true, laidLooks := .later }
def FnExactPrgAloneCardSaid : Prop := Claim7.holds Tryz.pinned (.plain (OpenSpec.ofChange fnExactPrgAloneSpec)) fnExactPrgAloneCard

/-- THE SECOND FORM's CARD OF 'laws.FnExactPrgAlone'. -/
def fnExactPrgAloneUptoCard : Claim7 := { stood := { row := fnExactPrgAloneUptoRow, standIns := [], harness := (true, "782bfa5464586adf11e2e0448b5720d04976d8b599985e2cf1dacaef7633dc7c"), looks := false }, kinds := [], alts := [], laidByText := true, laidKinds := [.data, .pinned], laidTests := true, laidLooks := .later }
def FnExactPrgAloneUptoCardSaid : Prop := Claim7.holds Tryz.pinned (.plain (OpenSpec.upto fnExactPrgAloneSpec)) fnExactPrgAloneUptoCard
end Rows
end Go.Proofs.YtenigopoknajgaaGreatDoor
