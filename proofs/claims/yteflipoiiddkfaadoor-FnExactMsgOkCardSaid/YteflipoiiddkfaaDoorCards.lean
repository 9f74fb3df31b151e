/-
  DERIVED. GIVEN WITH THE SEED: THE CARDS: each row of YteflipoiiddkfaaDoorRows.lean that lists a variable, with what it lists TIED to the program's text (the seventh form; the later family's looks); each row that meets fmt, with fmt's text TOLD by the authors' own Lean function (tested against real Go, not proved from fmt's source: count such statements apart). THE CARD IS WHAT COUNTS. Prove the row's statement (the work); the ties are given (YteflipoiiddkfaaDoorTie.lean); close each card by the builder's one call (the guide's Derived/Test/ToyasCard.lean, 'card_holds'). Laid BY PROGRAM, IN A SANDBOX (cutbox-door.mjs). By AI agents, Wed Nov 11 2026. No macro, syntax, notation, axiom, sorry.
-/
import Derived.Test.YteflipoiiddkfaaDoorRows
import GoSem.ClaimSeven
namespace Go.Proofs.YteflipoiiddkfaaDoor
namespace Rows

/-- THE TIED CARD OF 'laws.FnExactOutOk'. -/
def fnExactOutOkCard : Claim7 := { stood := { row := fnExactOutOkRow, standIns := [], harness := (true, "a01c9b6eb0266462fc8ef153faff31121716467adc452fb496288d18ec9c9209"), looks := false }, kinds := [], alts := [], laidByText := true, laidKinds := [.data, .pinned], laidTests := true, laidLooks := .later }
def FnExactOutOkCardSaid : Prop := Claim7.holds Tryd.pinned (.plain (OpenSpec.ofChange fnExactOutOkSpec)) fnExactOutOkCard

/-- THE TIED CARD OF 'laws.FnTrmSame'. -/
def fnTrmSameCard : Claim7 := { stood := { row := fnTrmSameRow, standIns := [], harness := (true, "a01c9b6eb0266462fc8ef153faff31121716467adc452fb496288d18ec9c9209"), looks := false }, kinds := [], alts := [], laidByText := true, laidKinds := [.data, .data, .data, .data, .pinned], laidTests := true, laidLooks := .later }
def FnTrmSameCardSaid : Prop := Claim7.holds Tryd.pinned (.plain (OpenSpec.ofChange fnTrmSameSpec)) fnTrmSameCard

/-- THE TIED CARD OF 'laws.FnExactMsgOk'. -/
def fnExactMsgOkCard : Claim7 := { stood := { row := fnExactMsgOkRow, standIns := [], harness := (true, "a01c9b6eb0266462fc8ef153faff31121716467adc452fb496288d18ec9c9209"), looks := false }, kinds := [], alts := [], laidByText := true, laidKinds := [.data, .pinned], laidTests := true, laidLooks := .later }
def FnExactMsgOkCardSaid : Prop := Claim7.holds Tryd.pinned (.plain (OpenSpec.ofChange fnExactMsgOkSpec)) fnExactMsgOkCard

/-- THE SECOND FORM's CARD OF 'laws.FnExactOutOk'. -/
def fnExactOutOkUptoCard : Claim7 := { stood := { row := fnExactOutOkUptoRow, standIns := [], harness := (true, "a01c9b6eb0266462fc8ef153faff31121716467adc452fb496288d18ec9c9209"), looks := false }, kinds := [], alts := [], laidByText := true, laidKinds := [.data, .pinned], laidTests := true, laidLooks := .later }
def FnExactOutOkUptoCardSaid : Prop := Claim7.holds Tryd.pinned (.plain (OpenSpec.upto fnExactOutOkSpec)) fnExactOutOkUptoCard

/-- THE SECOND FORM's CARD OF 'laws.FnTrmSame'. -/
def fnTrmSameUptoCard : Claim7 := { stood := { row := fnTrmSameUptoRow, standIns := [], harness := (true, "a01c9b6eb0266462fc8ef153faff31121716467adc452fb496288d18ec9c9209"), looks := false }, kinds := [], alts := [], laidByText := true, laidKinds := [.data, .data, .data, .data, .pinned], laidTests := true, laidLooks := .later }
def FnTrmSameUptoCardSaid : Prop := Claim7.holds Tryd.pinned (.plain (OpenSpec.upto fnTrmSameSpec)) fnTrmSameUptoCard

/-- THE SECOND FORM's CARD OF 'laws.FnExactMsgOk'. -/
def fnExactMsgOkUptoCard : Claim7 := { stood := { row := fnExactMsgOkUptoRow, standIns := [], harness := (true, "a01c9b6eb0266462fc8ef153faff31121716467adc452fb496288d18ec9c9209"), looks := false }, kinds := [], alts := [], laidByText := true, laidKinds := [.data, .pinned], laidTests := true, laidLooks := .later }
def FnExactMsgOkUptoCardSaid : Prop := Claim7.holds Tryd.pinned (.plain (OpenSpec.upto fnExactMsgOkSpec)) fnExactMsgOkUptoCard
end Rows
end Go.Proofs.YteflipoiiddkfaaDoor
