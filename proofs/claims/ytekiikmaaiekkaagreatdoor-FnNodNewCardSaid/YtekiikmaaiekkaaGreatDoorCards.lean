/-
  DERIVED. GIVEN WITH THE SEED: THE CARDS: each row of YtekiikmaaiekkaaGreatDoorRows.lean that lists a variable, with what it lists TIED to the program's text (the seventh form; the later family's looks); each row that meets fmt, with fmt's text TOLD by the authors' own Lean function (tested against real Go, not proved from fmt's source: count such statements apart). THE CARD IS WHAT COUNTS. Prove the row's statement (the work); the ties are given (YtekiikmaaiekkaaGreatDoorTie.lean); close each card by the builder's one call (the guide's Derived/Test/ToyasCard.lean, 'card_holds'). Laid BY PROGRAM, IN A SANDBOX (cutbox-door.mjs). By AI agents, Wed Nov 11 2026. No macro, syntax, notation, axiom, sorry.
-/
import Derived.Test.YtekiikmaaiekkaaGreatDoorRows
import GoSem.ClaimSeven
namespace Go.Proofs.YtekiikmaaiekkaaGreatDoor
namespace Rows

/-- THE TIED CARD OF 'laws.FnMsgRead'. -/
def fnMsgReadCard : Claim7 := { stood := { row := fnMsgReadRow, standIns := [], harness := (true, "7ae716f5abdfeef7568da8dfc86716e6a8770c8b3bdbf40226d40cec9af9e5be"), looks := false }, kinds := [], alts := [], laidByText := true, laidKinds := [.data, .pinned], laidTests := true, laidLooks := .later }
def FnMsgReadCardSaid : Prop := Claim7.holds Tryz.pinned (.plain (OpenSpec.ofChange fnMsgReadSpec)) fnMsgReadCard

/-- THE TIED CARD OF 'laws.FnSlvGround'. -/
def fnSlvGroundCard : Claim7 := { stood := { row := fnSlvGroundRow, standIns := [], harness := (true, "7ae716f5abdfeef7568da8dfc86716e6a8770c8b3bdbf40226d40cec9af9e5be"), looks := false }, kinds := [], alts := [], laidByText := true, laidKinds := [.data, .pinned], laidTests := true, laidLooks := .later }
def FnSlvGroundCardSaid : Prop := Claim7.holds Tryz.pinned (.plain (OpenSpec.ofChange fnSlvGroundSpec)) fnSlvGroundCard

/-- THE TIED CARD OF 'laws.FnExactMsgBytes'. -/
def fnExactMsgBytesCard : Claim7 := { stood := { row := fnExactMsgBytesRow, standIns := [], harness := (true, "7ae716f5abdfeef7568da8dfc86716e6a8770c8b3bdbf40226d40cec9af9e5be"), looks := false }, kinds := [], alts := [], laidByText := true, laidKinds := [.data, .pinned], laidTests := true, laidLooks := .later }
def FnExactMsgBytesCardSaid : Prop := Claim7.holds Tryz.pinned (.plain (OpenSpec.ofChange fnExactMsgBytesSpec)) fnExactMsgBytesCard

/-- THE TIED CARD OF 'laws.FnExactMsgRead'. -/
def fnExactMsgReadCard : Claim7 := { stood := { row := fnExactMsgReadRow, standIns := [], harness := (true, "7ae716f5abdfeef7568da8dfc86716e6a8770c8b3bdbf40226d40cec9af9e5be"), looks := false }, kinds := [], alts := [], laidByText := true, laidKinds := [.data, .pinned], laidTests := true, laidLooks := .later }
def FnExactMsgReadCardSaid : Prop := Claim7.holds Tryz.pinned (.plain (OpenSpec.ofChange fnExactMsgReadSpec)) fnExactMsgReadCard

/-- THE TIED CARD OF 'laws.FnPrgAlone'. -/
def fnPrgAloneCard : Claim7 := { stood := { row := fnPrgAloneRow, standIns := [], harness := (true, "7ae716f5abdfeef7568da8dfc86716e6a8770c8b3bdbf40226d40cec9af9e5be"), looks := false }, kinds := [], alts := [], laidByText := true, laidKinds := [.data, .pinned], laidTests := true, laidLooks := .later }
def FnPrgAloneCardSaid : Prop := Claim7.holds Tryz.pinned (.plain (OpenSpec.ofChange fnPrgAloneSpec)) fnPrgAloneCard

/-- THE TIED CARD OF 'laws.FnNodNew'. -/
def fnNodNewCard : Claim7 := { stood := { row := fnNodNewRow, standIns := [], harness := (true, "7ae716f5abdfeef7568da8dfc86716e6a8770c8b3bdbf40226d40cec9af9e5be"), looks := false }, kinds := [], alts := [], laidByText := true, laidKinds := [.data, .pinned], laidTests := true, laidLooks := .later }
def FnNodNewCardSaid : Prop := Claim7.holds Tryz.pinned (.plain (OpenSpec.ofChange fnNodNewSpec)) fnNodNewCard

/-- THE TIED CARD OF 'laws.FnSlvNew'. -/
def fnSlvNewCard : Claim7 := { stood := { row := fnSlvNewRow, standIns := [], harness := (true, "7ae716f5abdfeef7568da8dfc86716e6a8770c8b3bdbf40226d40cec9af9e5be"), looks := false }, kinds := [], alts := [], laidByText := true, laidKinds := [.data, .pinned], laidTests := true, laidLooks := .later }
def FnSlvNewCardSaid : Prop := Claim7.holds Tryz.pinned (.plain (OpenSpec.ofChange fnSlvNewSpec)) fnSlvNewCard

/-- THE SECOND FORM's CARD OF 'laws.FnMsgRead'. -/
def fnMsgReadUptoCard : Claim7 := { stood := { row := fnMsgReadUptoRow, standIns := [], harness := (true, "7ae716f5abdfeef7568da8dfc86716e6a8770c8b3bdbf40226d40cec9af9e5be"), looks := false }, kinds := [], alts := [], laidByText := true, laidKinds := [.data, .pinned], laidTests := true, laidLooks := .later }
def FnMsgReadUptoCardSaid : Prop := Claim7.holds Tryz.pinned (.plain (OpenSpec.upto fnMsgReadSpec)) fnMsgReadUptoCard

/-- THE SECOND FORM's CARD OF 'laws.FnSlvGround'. -/
def fnSlvGroundUptoCard : Claim7 := { stood := { row := fnSlvGroundUptoRow, standIns := [], harness := (true, "7ae716f5abdfeef7568da8dfc86716e6a8770c8b3bdbf40226d40cec9af9e5be"), looks := false }, kinds := [], alts := [], laidByText := true, laidKinds := [.data, .pinned], laidTests := true, laidLooks := .later }
def FnSlvGroundUptoCardSaid : Prop := Claim7.holds Tryz.pinned (.plain (OpenSpec.upto fnSlvGroundSpec)) fnSlvGroundUptoCard

/-- THE SECOND FORM's CARD OF 'laws.FnExactMsgBytes'. -/
def fnExactMsgBytesUptoCard : Claim7 := { stood := { row := fnExactMsgBytesUptoRow, standIns := [], harness := (true, "7ae716f5abdfeef7568da8dfc86716e6a8770c8b3bdbf40226d40cec9af9e5be"), looks := false }, kinds := [], alts := [], laidByText := true, laidKinds := [.data, .pinned], laidTests := true, laidLooks := .later }
def FnExactMsgBytesUptoCardSaid : Prop := Claim7.holds Tryz.pinned (.plain (OpenSpec.upto fnExactMsgBytesSpec)) fnExactMsgBytesUptoCard

/-- THE SECOND FORM's CARD OF 'laws.FnExactMsgRead'. -/
def fnExactMsgReadUptoCard : Claim7 := { stood := { row := fnExactMsgReadUptoRow, standIns := [], harness := (true, "7ae716f5abdfeef7568da8dfc86716e6a8770c8b3bdbf40226d40cec9af9e5be"), looks := false }, kinds := [], alts := [], laidByText := true, laidKinds := [.data, .pinned], laidTests := true, laidLooks := .later }
def FnExactMsgReadUptoCardSaid : Prop := Claim7.holds Tryz.pinned (.plain (OpenSpec.upto fnExactMsgReadSpec)) fnExactMsgReadUptoCard

/-- THE SECOND FORM's CARD OF 'laws.FnPrgAlone'. -/
def fnPrgAloneUptoCard : Claim7 := { stood := { row := fnPrgAloneUptoRow, standIns := [], harness := (true, "7ae716f5abdfeef7568da8dfc86716e6a8770c8b3bdbf40226d40cec9af9e5be"), looks := false }, kinds := [], alts := [], laidByText := true, laidKinds := [.data, .pinned], laidTests := true, laidLooks := .later }
def FnPrgAloneUptoCardSaid : Prop := Claim7.holds Tryz.pinned (.plain (OpenSpec.upto fnPrgAloneSpec)) fnPrgAloneUptoCard

/-- THE SECOND FORM's CARD OF 'laws.FnNodNew'. -/
def fnNodNewUptoCard : Claim7 := { stood := { row := fnNodNewUptoRow, standIns := [], harness := (true, "7ae716f5abdfeef7568da8dfc86716e6a8770c8b3bdbf40226d40cec9af9e5be"), looks := false }, kinds := [], alts := [], laidByText := true, laidKinds := [.data, .pinned], laidTests := true, laidLooks := .later }
def FnNodNewUptoCardSaid : Prop := Claim7.holds Tryz.pinned (.plain (OpenSpec.upto fnNodNewSpec)) fnNodNewUptoCard

/-- THE SECOND FORM's CARD OF 'laws.FnSlvNew'. -/
def fnSlvNewUptoCard : Claim7 := { stood := { row := fnSlvNewUptoRow, standIns := [], harness := (true, "7ae716f5abdfeef7568da8dfc86716e6a8770c8b3bdbf40226d40cec9af9e5be"), looks := false }, kinds := [], alts := [], laidByText := true, laidKinds := [.data, .pinned], laidTests := true, laidLooks := .later }
def FnSlvNewUptoCardSaid : Prop := Claim7.holds Tryz.pinned (.plain (OpenSpec.upto fnSlvNewSpec)) fnSlvNewUptoCard
end Rows
end Go.Proofs.YtekiikmaaiekkaaGreatDoor
