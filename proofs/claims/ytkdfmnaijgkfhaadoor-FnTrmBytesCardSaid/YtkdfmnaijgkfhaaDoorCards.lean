/-
  DERIVED. GIVEN WITH THE SEED: THE CARDS: each row of YtkdfmnaijgkfhaaDoorRows.lean that lists a variable, with what it lists TIED to the program's text (the seventh form; the later family's looks); each row that meets fmt, with fmt's text TOLD by the authors' own Lean function (tested against real Go, not proved from fmt's source: count such statements apart). THE CARD IS WHAT COUNTS. Prove the row's statement (the work); the ties are given (YtkdfmnaijgkfhaaDoorTie.lean); close each card by the builder's one call (the guide's Derived/Test/ToyasCard.lean, 'card_holds'). Laid BY PROGRAM, IN A SANDBOX (cutbox-door.mjs). By AI agents, Wed Nov 11 2026. No macro, syntax, notation, axiom, sorry.
-/
import Derived.Test.YtkdfmnaijgkfhaaDoorRows
import GoSem.ClaimSeven
namespace Go.Proofs.YtkdfmnaijgkfhaaDoor
namespace Rows

/-- THE TIED CARD OF 'laws.FnExactTrmBytes'. -/
def fnExactTrmBytesCard : Claim7 := { stood := { row := fnExactTrmBytesRow, standIns := [], harness := (true, "44a5488245c0695fd0148029b3692adcec95d6c1e169bf4c6391a1f5bc538957"), looks := false }, kinds := [], alts := [], laidByText := true, laidKinds := [.data, .pinned], laidTests := true, laidLooks := .later }
def FnExactTrmBytesCardSaid : Prop := Claim7.holds Tryd.pinned (.plain (OpenSpec.ofChange fnExactTrmBytesSpec)) fnExactTrmBytesCard

/-- THE TIED CARD OF 'laws.FnExactTrmTake'. -/
def fnExactTrmTakeCard : Claim7 := { stood := { row := fnExactTrmTakeRow, standIns := [], harness := (true, "44a5488245c0695fd0148029b3692adcec95d6c1e169bf4c6391a1f5bc538957"), looks := false }, kinds := [], alts := [], laidByText := true, laidKinds := [.data, .pinned], laidTests := true, laidLooks := .later }
def FnExactTrmTakeCardSaid : Prop := Claim7.holds Tryd.pinned (.plain (OpenSpec.ofChange fnExactTrmTakeSpec)) fnExactTrmTakeCard

/-- THE TIED CARD OF 'laws.FnTrmBytes'. -/
def fnTrmBytesCard : Claim7 := { stood := { row := fnTrmBytesRow, standIns := [], harness := (true, "44a5488245c0695fd0148029b3692adcec95d6c1e169bf4c6391a1f5bc538957"), looks := false }, kinds := [], alts := [], laidByText := true, laidKinds := [.data, .pinned], laidTests := true, laidLooks := .later }
def FnTrmBytesCardSaid : Prop := Claim7.holds Tryd.pinned (.plain (OpenSpec.ofChange fnTrmBytesSpec)) fnTrmBytesCard

/-- THE TIED CARD OF 'laws.FnExactOutOk'. -/
def fnExactOutOkCard : Claim7 := { stood := { row := fnExactOutOkRow, standIns := [], harness := (true, "44a5488245c0695fd0148029b3692adcec95d6c1e169bf4c6391a1f5bc538957"), looks := false }, kinds := [], alts := [], laidByText := true, laidKinds := [.data, .pinned], laidTests := true, laidLooks := .later }
def FnExactOutOkCardSaid : Prop := Claim7.holds Tryd.pinned (.plain (OpenSpec.ofChange fnExactOutOkSpec)) fnExactOutOkCard

/-- THE TIED CARD OF 'laws.FnTrmSame'. -/
def fnTrmSameCard : Claim7 := { stood := { row := fnTrmSameRow, standIns := [], harness := (true, "44a5488245c0695fd0148029b3692adcec95d6c1e169bf4c6391a1f5bc538957"), looks := false }, kinds := [], alts := [], laidByText := true, laidKinds := [.data, .data, .data, .data, .pinned], laidTests := true, laidLooks := .later }
def FnTrmSameCardSaid : Prop := Claim7.holds Tryd.pinned (.plain (OpenSpec.ofChange fnTrmSameSpec)) fnTrmSameCard

/-- THE SECOND FORM's CARD OF 'laws.FnExactTrmBytes'. -/
def fnExactTrmBytesUptoCard : Claim7 := { stood := { row := fnExactTrmBytesUptoRow, standIns := [], harness := (true, "44a5488245c0695fd0148029b3692adcec95d6c1e169bf4c6391a1f5bc538957"), looks := false }, kinds := [], alts := [], laidByText := true, laidKinds := [.data, .pinned], laidTests := true, laidLooks := .later }
def FnExactTrmBytesUptoCardSaid : Prop := Claim7.holds Tryd.pinned (.plain (OpenSpec.upto fnExactTrmBytesSpec)) fnExactTrmBytesUptoCard

/-- THE SECOND FORM's CARD OF 'laws.FnExactTrmTake'. -/
def fnExactTrmTakeUptoCard : Claim7 := { stood := { row := fnExactTrmTakeUptoRow, standIns := [], harness := (true, "44a5488245c0695fd0148029b3692adcec95d6c1e169bf4c6391a1f5bc538957"), looks := false }, kinds := [], alts := [], laidByText := true, laidKinds := [.data, .pinned], laidTests := true, laidLooks := .later }
def FnExactTrmTakeUptoCardSaid : Prop := Claim7.holds Tryd.pinned (.plain (OpenSpec.upto fnExactTrmTakeSpec)) fnExactTrmTakeUptoCard

/-- THE SECOND FORM's CARD OF 'laws.FnTrmBytes'. -/
def fnTrmBytesUptoCard : Claim7 := { stood := { row := fnTrmBytesUptoRow, standIns := [], harness := (true, "44a5488245c0695fd0148029b3692adcec95d6c1e169bf4c6391a1f5bc538957"), looks := false }, kinds := [], alts := [], laidByText := true, laidKinds := [.data, .pinned], laidTests := true, laidLooks := .later }
def FnTrmBytesUptoCardSaid : Prop := Claim7.holds Tryd.pinned (.plain (OpenSpec.upto fnTrmBytesSpec)) fnTrmBytesUptoCard

/-- THE SECOND FORM's CARD OF 'laws.FnExactOutOk'. -/
def fnExactOutOkUptoCard : Claim7 := { stood := { row := fnExactOutOkUptoRow, standIns := [], harness := (true, "44a5488245c0695fd0148029b3692adcec95d6c1e169bf4c6391a1f5bc538957"), looks := false }, kinds := [], alts := [], laidByText := true, laidKinds := [.data, .pinned], laidTests := true, laidLooks := .later }
def FnExactOutOkUptoCardSaid : Prop := Claim7.holds Tryd.pinned (.plain (OpenSpec.upto fnExactOutOkSpec)) fnExactOutOkUptoCard

/-- THE SECOND FORM's CARD OF 'laws.FnTrmSame'. -/
def fnTrmSameUptoCard : Claim7 := { stood := { row := fnTrmSameUptoRow, standIns := [], harness := (true, "44a5488245c0695fd0148029b3692adcec95d6c1e169bf4c6391a1f5bc538957"), looks := false }, kinds := [], alts := [], laidByText := true, laidKinds := [.data, .data, .data, .data, .pinned], laidTests := true, laidLooks := .later }
def FnTrmSameUptoCardSaid : Prop := Claim7.holds Tryd.pinned (.plain (OpenSpec.upto fnTrmSameSpec)) fnTrmSameUptoCard
end Rows
end Go.Proofs.YtkdfmnaijgkfhaaDoor
