/-
  DERIVED. GIVEN WITH THE SEED: THE CARDS: each row of YteflipoiiddkfaaGreatDoorRows.lean that lists a variable, with what it lists TIED to the program's text (the seventh form; the later family's looks); each row that meets fmt, with fmt's text TOLD by the authors' own Lean function (tested against real Go, not proved from fmt's source: count such statements apart). THE CARD IS WHAT COUNTS. Prove the row's statement (the work); the ties are given (YteflipoiiddkfaaGreatDoorTie.lean); close each card by the builder's one call (the guide's Derived/Test/ToyasCard.lean, 'card_holds'). Laid BY PROGRAM, IN A SANDBOX (cutbox-door.mjs). By AI agents, Wed Nov 11 2026. No macro, syntax, notation, axiom, sorry.
-/
import Derived.Test.YteflipoiiddkfaaGreatDoorRows
import GoSem.ClaimSeven
namespace Go.Proofs.YteflipoiiddkfaaGreatDoor
namespace Rows

/-- THE TIED CARD OF 'laws.FnExactMsgBytes'. -/
def fnExactMsgBytesCard : Claim7 := { stood := { row := fnExactMsgBytesRow, standIns := [], harness := (true, "9a0cf85ac70267850eb7ae7e038e4dbe008ffe0f4338296d3219d590ab1f2b50"), looks := false }, kinds := [], alts := [], laidByText := true, laidKinds := [.data, .pinned], laidTests := true, laidLooks := .later }
def FnExactMsgBytesCardSaid : Prop := Claim7.holds Tryz.pinned (.plain (OpenSpec.ofChange fnExactMsgBytesSpec)) fnExactMsgBytesCard

/-- THE TIED CARD OF 'laws.FnExactMsgRead'. -/
def fnExactMsgReadCard : Claim7 := { stood := { row := fnExactMsgReadRow, standIns := [], harness := (true, "9a0cf85ac70267850eb7ae7e038e4dbe008ffe0f4338296d3219d590ab1f2b50"), looks := false }, kinds := [], alts := [], laidByText := true, laidKinds := [.data, .pinned], laidTests := true, laidLooks := .later }
def FnExactMsgReadCardSaid : Prop := Claim7.holds Tryz.pinned (.plain (OpenSpec.ofChange fnExactMsgReadSpec)) fnExactMsgReadCard

/-- THE SECOND FORM's CARD OF 'laws.FnExactMsgBytes'. -/
def fnExactMsgBytesUptoCard : Claim7 := { stood := { row := fnExactMsgBytesUptoRow, standIns := [], harness := (true, "9a0cf85ac70267850eb7ae7e038e4dbe008ffe0f4338296d3219d590ab1f2b50"), looks := false }, kinds := [], alts := [], laidByText := true, laidKinds := [.data, .pinned], laidTests := true, laidLooks := .later }
def FnExactMsgBytesUptoCardSaid : Prop := Claim7.holds Tryz.pinned (.plain (OpenSpec.upto fnExactMsgBytesSpec)) fnExactMsgBytesUptoCard

/-- THE SECOND FORM's CARD OF 'laws.FnExactMsgRead'. -/
def fnExactMsgReadUptoCard : Claim7 := { stood := { row := fnExactMsgReadUptoRow, standIns := [], harness := (true, "9a0cf85ac70267850eb7ae7e038e4dbe008ffe0f4338296d3219d590ab1f2b50"), looks := false }, kinds := [], alts := [], laidByText := true, laidKinds := [.data, .pinned], laidTests := true, laidLooks := .later }
def FnExactMsgReadUptoCardSaid : Prop := Claim7.holds Tryz.pinned (.plain (OpenSpec.upto fnExactMsgReadSpec)) fnExactMsgReadUptoCard
end Rows
end Go.Proofs.YteflipoiiddkfaaGreatDoor
