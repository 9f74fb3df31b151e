/-
  DERIVED. GIVEN WITH THE SEED: THE CARDS: each row of YtgiobpggonceeaaGreatDoorRows.lean that lists a variable, with what it lists TIED to the program's text (the seventh form; the later family's looks); each row that meets fmt, with fmt's text TOLD by the authors' own Lean function (tested against real Go, not proved from fmt's source: count such statements apart). THE CARD IS WHAT COUNTS. Prove the row's statement (the work); the ties are given (YtgiobpggonceeaaGreatDoorTie.lean); close each card by the builder's one call (the guide's Derived/Test/ToyasCard.lean, 'card_holds'). Laid BY PROGRAM, IN A SANDBOX (cutbox-door.mjs). By AI agents, Wed Nov 11 2026. No macro, syntax, notation, axiom, sorry.
-/
import Derived.Test.YtgiobpggonceeaaGreatDoorRows
import GoSem.ClaimSeven
namespace Go.Proofs.YtgiobpggonceeaaGreatDoor
namespace Rows

/-- THE TIED CARD OF 'laws.FnSlvNew'. -/
def fnSlvNewCard : Claim7 := { stood := { row := fnSlvNewRow, standIns := [], harness := (true, "5251fc790d69dac672131cbf40dfab24f99b7acec54db0826279256e67ba693c"), looks := false }, kinds := [], alts := [], laidByText := true, laidKinds := [.data, .pinned], laidTests := true, laidLooks := .later }
def FnSlvNewCardSaid : Prop := Claim7.holds Tryz.pinned (.plain (OpenSpec.ofChange fnSlvNewSpec)) fnSlvNewCard

/-- THE TIED CARD OF 'laws.FnExactWldNew'. -/
def fnExactWldNewCard : Claim7 := { stood := { row := fnExactWldNewRow, standIns := [], harness := (true, "5251fc790d69dac672131cbf40dfab24f99b7acec54db0826279256e67ba693c"), looks := false }, kinds := [], alts := [], laidByText := true, laidKinds := [.data, .pinned], laidTests := true, laidLooks := .later }
def FnExactWldNewCardSaid : Prop := Claim7.holds Tryz.pinned (.plain (OpenSpec.ofChange fnExactWldNewSpec)) fnExactWldNewCard

/-- THE TIED CARD OF 'laws.FnExactMsgBytes'. -/
def fnExactMsgBytesCard : Claim7 := { stood := { row := fnExactMsgBytesRow, standIns := [], harness := (true, "5251fc790d69dac672131cbf40dfab24f99b7acec54db0826279256e67ba693c"), looks := false }, kinds := [], alts := [], laidByText := true, laidKinds := [.data, .pinned], laidTests := true, laidLooks := .later }
def FnExactMsgBytesCardSaid : Prop := Claim7.holds Tryz.pinned (.plain (OpenSpec.ofChange fnExactMsgBytesSpec)) fnExactMsgBytesCard

/-- THE TIED CARD OF 'laws.FnExactMsgRead'. -/
def fnExactMsgReadCard : Claim7 := { stood := { row := fnExactMsgReadRow, standIns := [], harness := (true, "5251fc790d69dac672131cbf40dfab24f99b7acec54db0826279256e67ba693c"), looks := false }, kinds := [], alts := [], laidByText := true, laidKinds := [.data, .pinned], laidTests := true, laidLooks := .later }
def FnExactMsgReadCardSaid : Prop := Claim7.holds Tryz.pinned (.plain (OpenSpec.ofChange fnExactMsgReadSpec)) fnExactMsgReadCard

/-- THE SECOND FORM's CARD OF 'laws.FnSlvNew'. -/
def fnSlvNewUptoCard : Claim7 := { stood := { row := fnSlvNewUptoRow, standIns := [], harness := (true, "5251fc790d69dac672131cbf40dfab24f99b7acec54db0826279256e67ba693c"), looks := false }, kinds := [], alts := [], laidByText := true, laidKinds := [.data, .pinned], laidTests := true, laidLooks := .later }
def FnSlvNewUptoCardSaid : Prop := Claim7.holds Tryz.pinned (.plain (OpenSpec.upto fnSlvNewSpec)) fnSlvNewUptoCard

/-- THE SECOND FORM's CARD OF 'laws.FnExactWldNew'. -/
def fnExactWldNewUptoCard : Claim7 := { stood := { row := fnExactWldNewUptoRow, standIns := [], harness := (true, "5251fc790d69dac672131cbf40dfab24f99b7acec54db0826279256e67ba693c"), looks := false }, kinds := [], alts := [], laidByText := true, laidKinds := [.data, .pinned], laidTests := true, laidLooks := .later }
def FnExactWldNewUptoCardSaid : Prop := Claim7.holds Tryz.pinned (.plain (OpenSpec.upto fnExactWldNewSpec)) fnExactWldNewUptoCard

/-- THE SECOND FORM's CARD OF 'laws.FnExactMsgBytes'. -/
def fnExactMsgBytesUptoCard : Claim7 := { stood := { row := fnExactMsgBytesUptoRow, standIns := [], harness := (true, "5251fc790d69dac672131cbf40dfab24f99b7acec54db0826279256e67ba693c"), looks := false }, kinds := [], alts := [], laidByText := true, laidKinds := [.data, .pinned], laidTests := true, laidLooks := .later }
def FnExactMsgBytesUptoCardSaid : Prop := Claim7.holds Tryz.pinned (.plain (OpenSpec.upto fnExactMsgBytesSpec)) fnExactMsgBytesUptoCard

/-- THE SECOND FORM's CARD OF 'laws.FnExactMsgRead'. -/
def fnExactMsgReadUptoCard : Claim7 := { stood := { row := fnExactMsgReadUptoRow, standIns := [], harness := (true, "5251fc790d69dac672131cbf40dfab24f99b7acec54db0826279256e67ba693c"), looks := false }, kinds := [], alts := [], laidByText := true, laidKinds := [.data, .pinned], laidTests := true, laidLooks := .later }
def FnExactMsgReadUptoCardSaid : Prop := Claim7.holds Tryz.pinned (.plain (OpenSpec.upto fnExactMsgReadSpec)) fnExactMsgReadUptoCard
end Rows
end Go.Proofs.YtgiobpggonceeaaGreatDoor
