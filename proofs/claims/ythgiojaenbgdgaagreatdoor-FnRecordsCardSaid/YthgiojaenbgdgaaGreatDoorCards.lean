/-
  DERIVED. GIVEN WITH THE SEED: THE CARDS: each row of YthgiojaenbgdgaaGreatDoorRows.lean that lists a variable, with what it lists TIED to the program's text (the seventh form; the later family's looks); each row that meets fmt, with fmt's text TOLD by the authors' own Lean function (tested against real Go, not proved from fmt's source: count such statements apart). THE CARD IS WHAT COUNTS. Prove the row's statement (the work); the ties are given (YthgiojaenbgdgaaGreatDoorTie.lean); close each card by the builder's one call (the guide's Derived/Test/ToyasCard.lean, 'card_holds'). Laid BY PROGRAM, IN A SANDBOX (cutbox-door.mjs). By AI agents, Wed Nov 11 2026. No macro, syntax, notation, axiom, sorry.
-/
import Derived.Test.YthgiojaenbgdgaaGreatDoorRows
import GoSem.ClaimSeven
namespace Go.Proofs.YthgiojaenbgdgaaGreatDoor
namespace Rows

/-- THE TIED CARD OF 'laws.FnRecords'. -/
def fnRecordsCard : Claim7 := { stood := { row := fnRecordsRow, standIns := [], harness := (true, "fc2de0193391f822f060a6cfa23ee501c6b56c7f35143a2f54513e25a4e77cd8"), looks := false }, kinds := [], alts := [], laidByText := true, laidKinds := [.data, .data, .data, .data, .pinned], laidTests := true, laidLooks := .later }
def FnRecordsCardSaid : Prop := Claim7.holds Tryz.pinned (.plain (OpenSpec.ofChange fnRecordsSpec)) fnRecordsCard

/-- THE TIED CARD OF 'laws.FnExactHouseOk'. -/
def fnExactHouseOkCard : Claim7 := { stood := { row := fnExactHouseOkRow, standIns := [], harness := (true, "fc2de0193391f822f060a6cfa23ee501c6b56c7f35143a2f54513e25a4e77cd8"), looks := false }, kinds := [], alts := [], laidByText := true, laidKinds := [.data, .data, .data], laidTests := true, laidLooks := .later }
def FnExactHouseOkCardSaid : Prop := Claim7.holds Tryz.pinned (.plain (OpenSpec.ofChange fnExactHouseOkSpec)) fnExactHouseOkCard

/-- THE SECOND FORM's CARD OF 'laws.FnRecords'. -/
def fnRecordsUptoCard : Claim7 := { stood := { row := fnRecordsUptoRow, standIns := [], harness := (true, "fc2de0193391f822f060a6cfa23ee501c6b56c7f35143a2f54513e25a4e77cd8"), looks := false }, kinds := [], alts := [], laidByText := true, laidKinds := [.data, .data, .data, .data, .pinned], laidTests := true, laidLooks := .later }
def FnRecordsUptoCardSaid : Prop := Claim7.holds Tryz.pinned (.plain (OpenSpec.upto fnRecordsSpec)) fnRecordsUptoCard

/-- THE SECOND FORM's CARD OF 'laws.FnExactHouseOk'. -/
def fnExactHouseOkUptoCard : Claim7 := { stood := { row := fnExactHouseOkUptoRow, standIns := [], harness := (true, "fc2de0193391f822f060a6cfa23ee501c6b56c7f35143a2f54513e25a4e77cd8"), looks := false }, kinds := [], alts := [], laidByText := true, laidKinds := [.data, .data, .data], laidTests := true, laidLooks := .later }
def FnExactHouseOkUptoCardSaid : Prop := Claim7.holds Tryz.pinned (.plain (OpenSpec.upto fnExactHouseOkSpec)) fnExactHouseOkUptoCard
end Rows
end Go.Proofs.YthgiojaenbgdgaaGreatDoor
