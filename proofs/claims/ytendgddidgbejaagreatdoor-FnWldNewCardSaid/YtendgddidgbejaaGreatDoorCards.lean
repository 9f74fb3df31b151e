/-
  DERIVED. GIVEN WITH THE SEED: THE CARDS: each row of YtendgddidgbejaaGreatDoorRows.lean that lists a variable, with what it lists TIED to the program's text (the seventh form; the later family's looks); each row that meets fmt, with fmt's text TOLD by the authors' own Lean function (tested against real Go, not proved from fmt's source: count such statements apart). THE CARD IS WHAT COUNTS. Prove the row's statement (the work); the ties are given (YtendgddidgbejaaGreatDoorTie.lean); close each card by the builder's one call (the guide's Derived/Test/ToyasCard.lean, 'card_holds'). Laid BY PROGRAM, IN A SANDBOX (cutbox-door.mjs). By AI agents, Wed Nov 11 2026. No macro, syntax, notation, axiom, sorry.
-/
import Derived.Test.YtendgddidgbejaaGreatDoorRows
import GoSem.ClaimSeven
namespace Go.Proofs.YtendgddidgbejaaGreatDoor
namespace Rows

/-- THE TIED CARD OF 'laws.FnWldNew'. -/
def fnWldNewCard : Claim7 := { stood := { row := fnWldNewRow, standIns := [], harness := (true, "ac83b5fbee93f27c6e82426093c09165c4b679f13537d4c0f06c3932b8b6c050"), looks := false }, kinds := [], alts := [], laidByText := true, laidKinds := [.data, .pinned], laidTests := true, laidLooks := .later }
def FnWldNewCardSaid : Prop := Claim7.holds Tryz.pinned (.plain (OpenSpec.ofChange fnWldNewSpec)) fnWldNewCard

/-- THE TIED CARD OF 'laws.FnExactWldNew'. -/
def fnExactWldNewCard : Claim7 := { stood := { row := fnExactWldNewRow, standIns := [], harness := (true, "ac83b5fbee93f27c6e82426093c09165c4b679f13537d4c0f06c3932b8b6c050"), looks := false }, kinds := [], alts := [], laidByText := true, laidKinds := [.data, .pinned], laidTests := true, laidLooks := .later }
def FnExactWldNewCardSaid : Prop := Claim7.holds Tryz.pinned (.plain (OpenSpec.ofChange fnExactWldNewSpec)) fnExactWldNewCard

/-- THE SECOND FORM's CARD OF 'laws.FnWldNew'. -/
def fnWldNewUptoCard : Claim7 := { stood := { row := fnWldNewUptoRow, standIns := [], harness := (true, "ac83b5fbee93f27c6e82426093c09165c4b679f13537d4c0f06c3932b8b6c050"), looks := false }, kinds := [], alts := [], laidByText := true, laidKinds := [.data, .pinned], laidTests := true, laidLooks := .later }
def FnWldNewUptoCardSaid : Prop := Claim7.holds Tryz.pinned (.plain (OpenSpec.upto fnWldNewSpec)) fnWldNewUptoCard

/-- THE SECOND FORM's CARD OF 'laws.FnExactWldNew'. -/
def fnExactWldNewUptoCard : Claim7 := { stood := { row := fnExactWldNewUptoRow, standIns := [], harness := (true, "ac83b5fbee93f27c6e82426093c09165c4b679f13537d4c0f06c3932b8b6c050"), looks := false }, kinds := [], alts := [], laidByText := true, laidKinds := [.data, .pinned], laidTests := true, laidLooks := .later }
def FnExactWldNewUptoCardSaid : Prop := Claim7.holds Tryz.pinned (.plain (OpenSpec.upto fnExactWldNewSpec)) fnExactWldNewUptoCard
end Rows
end Go.Proofs.YtendgddidgbejaaGreatDoor
