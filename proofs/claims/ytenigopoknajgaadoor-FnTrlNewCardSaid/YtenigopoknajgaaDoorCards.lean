/-
  DERIVED. GIVEN WITH THE SEED: THE CARDS: each row of YtenigopoknajgaaDoorRows.lean that lists a variable, with what it lists TIED to the program's text (the seventh form; the later family's looks); each row that meets fmt, with fmt's text TOLD by the authors' own Lean function (tested against real Go, not proved from fmt's source: count such statements apart). THE CARD IS WHAT COUNTS. Prove the row's statement (the work); the ties are given (YtenigopoknajgaaDoorTie.lean); close each card by the builder's one call (the guide's Derived/Test/ToyasCard.lean, 'card_holds'). Laid BY PROGRAM, IN A SANDBOX (cutbox-door.mjs). By AI agents, Wed Nov 11 2026. No macro, syntax, notation, axiom, sorry.
-/
import Derived.Test.YtenigopoknajgaaDoorRows
import GoSem.ClaimSeven
namespace Go.Proofs.YtenigopoknajgaaDoor
namespace Rows

/-- THE TIED CARD OF 'laws.FnTrlNew'. -/
def fnTrlNewCard : Claim7 := { stood := { row := fnTrlNewRow, standIns := [], harness := (true, "72cb55734a50034db522fcc92551b81f3f2b1a5f5aa4bce2c26ea4650bb78f69"), looks := false }, kinds := [], alts := [], laidByText := true, laidKinds := [.data, .pinned], laidTests := true, laidLooks := .later }
def FnTrlNewCardSaid : Prop := Claim7.holds Tryd.pinned (.plain (OpenSpec.ofChange fnTrlNewSpec)) fnTrlNewCard

/-- THE TIED CARD OF 'laws.FnExactTrlNew'. -/
def fnExactTrlNewCard : Claim7 := { stood := { row := fnExactTrlNewRow, standIns := [], harness := (true, "72cb55734a50034db522fcc92551b81f3f2b1a5f5aa4bce2c26ea4650bb78f69"), looks := false }, kinds := [], alts := [], laidByText := true, laidKinds := [.data, .pinned], laidTests := true, laidLooks := .later }
def FnExactTrlNewCardSaid : Prop := Claim7.holds Tryd.pinned (.plain (OpenSpec.ofChange fnExactTrlNewSpec)) fnExactTrlNewCard

/-- THE TIED CARD OF 'laws.FnExactSlvNew'. -/
def fnExactSlvNewCard : Claim7 := { stood := { row := fnExactSlvNewRow, standIns := [], harness := (true, "72cb55734a50034db522fcc92551b81f3f2b1a5f5aa4bce2c26ea4650bb78f69"), looks := false }, kinds := [], alts := [], laidByText := true, laidKinds := [.data, .pinned], laidTests := true, laidLooks := .later }
def FnExactSlvNewCardSaid : Prop := Claim7.holds Tryd.pinned (.plain (OpenSpec.ofChange fnExactSlvNewSpec)) fnExactSlvNewCard

/-- THE SECOND FORM's CARD OF 'laws.FnTrlNew'. -/
def fnTrlNewUptoCard : Claim7 := { stood := { row := fnTrlNewUptoRow, standIns := [], harness := (true, "72cb55734a50034db522fcc92551b81f3f2b1a5f5aa4bce2c26ea4650bb78f69"), looks := false }, kinds := [], alts := [], laidByText := true, laidKinds := [.data, .pinned], laidTests := true, laidLooks := .later }
def FnTrlNewUptoCardSaid : Prop := Claim7.holds Tryd.pinned (.plain (OpenSpec.upto fnTrlNewSpec)) fnTrlNewUptoCard

/-- THE SECOND FORM's CARD OF 'laws.FnExactTrlNew'. -/
def fnExactTrlNewUptoCard : Claim7 := { stood := { row := fnExactTrlNewUptoRow, standIns := [], harness := (true, "72cb55734a50034db522fcc92551b81f3f2b1a5f5aa4bce2c26ea4650bb78f69"), looks := false }, kinds := [], alts := [], laidByText := true, laidKinds := [.data, .pinned], laidTests := true, laidLooks := .later }
def FnExactTrlNewUptoCardSaid : Prop := Claim7.holds Tryd.pinned (.plain (OpenSpec.upto fnExactTrlNewSpec)) fnExactTrlNewUptoCard

/-- THE SECOND FORM's CARD OF 'laws.FnExactSlvNew'. -/
def fnExactSlvNewUptoCard : Claim7 := { stood := { row := fnExactSlvNewUptoRow, standIns := [], harness := (true, "72cb55734a50034db522fcc92551b81f3f2b1a5f5aa4bce2c26ea4650bb78f69"), looks := false }, kinds := [], alts := [], laidByText := true, laidKinds := [.data, .pinned], laidTests := true, laidLooks := .later }
def FnExactSlvNewUptoCardSaid : Prop := Claim7.holds Tryd.pinned (.plain (OpenSpec.upto fnExactSlvNewSpec)) fnExactSlvNewUptoCard
end Rows
end Go.Proofs.YtenigopoknajgaaDoor
