/-
  DERIVED. GIVEN WITH THE SEED: THE CARDS: each row of YtpnhfpjpmjdgmaaGreatDoorRows.lean that lists a variable, with what it lists TIED to the program's text (the seventh form; the later family's looks); each row that meets fmt, with fmt's text TOLD by the authors' own Lean function (tested against real Go, not proved from fmt's source: count such statements apart). THE CARD IS WHAT COUNTS. Prove the row's statement (the work); the ties are given (YtpnhfpjpmjdgmaaGreatDoorTie.lean); close each card by the builder's one call (the guide's Derived/Test/ToyasCard.lean, 'card_holds'). Laid BY PROGRAM, IN A SANDBOX (cutbox-door.mjs). By AI agents, Wed Nov 11 2026. No macro, syntax, notation, axiom, sorry.
-/
import Derived.Test.YtpnhfpjpmjdgmaaGreatDoorRows
import GoSem.ClaimSeven
namespace Go.Proofs.YtpnhfpjpmjdgmaaGreatDoor
namespace Rows

/-- THE TIED CARD OF 'laws.FnExactHouseOk'. -/
def fnExactHouseOkCard : Claim7 := { stood := { row := fnExactHouseOkRow, standIns := [], harness := (true, "6d0f4cedcc174b83dc1b1aa72934dc22e2e826f5b96ed334d66ba2f5cbc1f439"), looks := false }, kinds := [], alts := [], laidByText := true, laidKinds := [.data, .data, .data], laidTests := true, laidLooks := .later }
def FnExactHouseOkCardSaid : Prop := Claim7.holds Tryz.pinned (.plain (OpenSpec.ofChange fnExactHouseOkSpec)) fnExactHouseOkCard

/-- THE TIED CARD OF 'laws.FnExactLeaseOf'. -/
def fnExactLeaseOfCard : Claim7 := { stood := { row := fnExactLeaseOfRow, standIns := [], harness := (true, "6d0f4cedcc174b83dc1b1aa72934dc22e2e826f5b96ed334d66ba2f5cbc1f439"), looks := false }, kinds := [], alts := [], laidByText := true, laidKinds := [.data, .data, .data], laidTests := true, laidLooks := .later }
def FnExactLeaseOfCardSaid : Prop := Claim7.holds Tryz.pinned (.plain (OpenSpec.ofChange fnExactLeaseOfSpec)) fnExactLeaseOfCard

/-- THE SECOND FORM's CARD OF 'laws.FnExactHouseOk'. -/
def fnExactHouseOkUptoCard : Claim7 := { stood := { row := fnExactHouseOkUptoRow, standIns := [], harness := (true, "6d0f4cedcc174b83dc1b1aa72934dc22e2e826f5b96ed334d66ba2f5cbc1f439"), looks := false }, kinds := [], alts := [], laidByText := true, laidKinds := [.data, .data, .data], laidTests := true, laidLooks := .later }
def FnExactHouseOkUptoCardSaid : Prop := Claim7.holds Tryz.pinned (.plain (OpenSpec.upto fnExactHouseOkSpec)) fnExactHouseOkUptoCard

/-- THE SECOND FORM's CARD OF 'laws.FnExactLeaseOf'. -/
def fnExactLeaseOfUptoCard : Claim7 := { stood := { row := fnExactLeaseOfUptoRow, standIns := [], harness := (true, "6d0f4cedcc174b83dc1b1aa72934dc22e2e826f5b96ed334d66ba2f5cbc1f439"), looks := false }, kinds := [], alts := [], laidByText := true, laidKinds := [.data, .data, .data], laidTests := true, laidLooks := .later }
def FnExactLeaseOfUptoCardSaid : Prop := Claim7.holds Tryz.pinned (.plain (OpenSpec.upto fnExactLeaseOfSpec)) fnExactLeaseOfUptoCard
end Rows
end Go.Proofs.YtpnhfpjpmjdgmaaGreatDoor
