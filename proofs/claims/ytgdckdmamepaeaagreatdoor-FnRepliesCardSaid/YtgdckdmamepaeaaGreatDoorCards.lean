/-
  DERIVED. GIVEN WITH THE SEED: THE CARDS: each row of YtgdckdmamepaeaaGreatDoorRows.lean that lists a variable, with what it lists TIED to the program's text (the seventh form; the later family's looks); each row that meets fmt, with fmt's text TOLD by the authors' own Lean function (tested against real Go, not proved from fmt's source: count such statements apart). THE CARD IS WHAT COUNTS. Prove the row's statement (the work); the ties are given (YtgdckdmamepaeaaGreatDoorTie.lean); close each card by the builder's one call (the guide's Derived/Test/ToyasCard.lean, 'card_holds'). Laid BY PROGRAM, IN A SANDBOX (cutbox-door.mjs). By AI agents, Wed Nov 11 2026. No macro, syntax, notation, axiom, sorry.
-/
import Derived.Test.YtgdckdmamepaeaaGreatDoorRows
import GoSem.ClaimSeven
namespace Go.Proofs.YtgdckdmamepaeaaGreatDoor
namespace Rows

/-- THE TIED CARD OF 'laws.FnReplies'. -/
def fnRepliesCard : Claim7 := { stood := { row := fnRepliesRow, standIns := [], harness := (true, "58921b3e60d9caa7076017d0fe4a3796842360119a193935ac7c7c5b6be89ac3"), looks := false }, kinds := [], alts := [], laidByText := true, laidKinds := [.data, .data, .data, .data, .pinned], laidTests := true, laidLooks := .later }
def FnRepliesCardSaid : Prop := Claim7.holds Tryz.pinned (.plain (OpenSpec.ofChange fnRepliesSpec)) fnRepliesCard

/-- THE TIED CARD OF 'laws.FnExactHouseOk'. -/
def fnExactHouseOkCard : Claim7 := { stood := { row := fnExactHouseOkRow, standIns := [], harness := (true, "58921b3e60d9caa7076017d0fe4a3796842360119a193935ac7c7c5b6be89ac3"), looks := false }, kinds := [], alts := [], laidByText := true, laidKinds := [.data, .data, .data], laidTests := true, laidLooks := .later }
def FnExactHouseOkCardSaid : Prop := Claim7.holds Tryz.pinned (.plain (OpenSpec.ofChange fnExactHouseOkSpec)) fnExactHouseOkCard

/-- THE TIED CARD OF 'laws.FnExactJournalOk'. -/
def fnExactJournalOkCard : Claim7 := { stood := { row := fnExactJournalOkRow, standIns := [], harness := (true, "58921b3e60d9caa7076017d0fe4a3796842360119a193935ac7c7c5b6be89ac3"), looks := false }, kinds := [], alts := [], laidByText := true, laidKinds := [.data, .data, .data], laidTests := true, laidLooks := .later }
def FnExactJournalOkCardSaid : Prop := Claim7.holds Tryz.pinned (.plain (OpenSpec.ofChange fnExactJournalOkSpec)) fnExactJournalOkCard

/-- THE TIED CARD OF 'laws.FnExactGateOk'. -/
def fnExactGateOkCard : Claim7 := { stood := { row := fnExactGateOkRow, standIns := [], harness := (true, "58921b3e60d9caa7076017d0fe4a3796842360119a193935ac7c7c5b6be89ac3"), looks := false }, kinds := [], alts := [], laidByText := true, laidKinds := [.data, .data, .data], laidTests := true, laidLooks := .later }
def FnExactGateOkCardSaid : Prop := Claim7.holds Tryz.pinned (.plain (OpenSpec.ofChange fnExactGateOkSpec)) fnExactGateOkCard

/-- THE SECOND FORM's CARD OF 'laws.FnReplies'. -/
def fnRepliesUptoCard : Claim7 := { stood := { row := fnRepliesUptoRow, standIns := [], harness := (true, "58921b3e60d9caa7076017d0fe4a3796842360119a193935ac7c7c5b6be89ac3"), looks := false }, kinds := [], alts := [], laidByText := true, laidKinds := [.data, .data, .data, .data, .pinned], laidTests := true, laidLooks := .later }
def FnRepliesUptoCardSaid : Prop := Claim7.holds Tryz.pinned (.plain (OpenSpec.upto fnRepliesSpec)) fnRepliesUptoCard

/-- THE SECOND FORM's CARD OF 'laws.FnExactHouseOk'. -/
def fnExactHouseOkUptoCard : Claim7 := { stood := { row := fnExactHouseOkUptoRow, standIns := [], harness := (true, "58921b3e60d9caa7076017d0fe4a3796842360119a193935ac7c7c5b6be89ac3"), looks := false }, kinds := [], alts := [], laidByText := true, laidKinds := [.data, .data, .data], laidTests := true, laidLooks := .later }
def FnExactHouseOkUptoCardSaid : Prop := Claim7.holds Tryz.pinned (.plain (OpenSpec.upto fnExactHouseOkSpec)) fnExactHouseOkUptoCard

/-- THE SECOND FORM's CARD OF 'laws.FnExactJournalOk'. -/
def fnExactJournalOkUptoCard : Claim7 := { stood := { row := fnExactJournalOkUptoRow, standIns := [], harness := (true, "58921b3e60d9caa7076017d0fe4a3796842360119a193935ac7c7c5b6be89ac3"), looks := false }, kinds := [], alts := [], laidByText := true, laidKinds := [.data, .data, .data], laidTests := true, laidLooks := .later }
def FnExactJournalOkUptoCardSaid : Prop := Claim7.holds Tryz.pinned (.plain (OpenSpec.upto fnExactJournalOkSpec)) fnExactJournalOkUptoCard

/-- THE SECOND FORM's CARD OF 'laws.FnExactGateOk'. -/
def fnExactGateOkUptoCard : Claim7 := { stood := { row := fnExactGateOkUptoRow, standIns := [], harness := (true, "58921b3e60d9caa7076017d0fe4a3796842360119a193935ac7c7c5b6be89ac3"), looks := false }, kinds := [], alts := [], laidByText := true, laidKinds := [.data, .data, .data], laidTests := true, laidLooks := .later }
def FnExactGateOkUptoCardSaid : Prop := Claim7.holds Tryz.pinned (.plain (OpenSpec.upto fnExactGateOkSpec)) fnExactGateOkUptoCard
end Rows
end Go.Proofs.YtgdckdmamepaeaaGreatDoor
