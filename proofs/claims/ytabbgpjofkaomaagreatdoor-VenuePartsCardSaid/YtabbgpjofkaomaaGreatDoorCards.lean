/-
  DERIVED. GIVEN WITH THE SEED: THE CARDS: each row of YtabbgpjofkaomaaGreatDoorRows.lean that lists a variable, with what it lists TIED to the program's text (the seventh form; the later family's looks); each row that meets fmt, with fmt's text TOLD by the authors' own Lean function (tested against real Go, not proved from fmt's source: count such statements apart). THE CARD IS WHAT COUNTS. Prove the row's statement (the work); the ties are given (YtabbgpjofkaomaaGreatDoorTie.lean); close each card by the builder's one call (the guide's Derived/Test/ToyasCard.lean, 'card_holds'). Laid BY PROGRAM, IN A SANDBOX (cutbox-door.mjs). By AI agents, Wed Nov 11 2026. No macro, syntax, notation, axiom, sorry.
-/
import Derived.Test.YtabbgpjofkaomaaGreatDoorRows
import GoSem.ClaimSeven
namespace Go.Proofs.YtabbgpjofkaomaaGreatDoor
namespace Rows

/-- THE TIED CARD OF 'gavelhouselaw3.VenueTold'. -/
def venueToldCard : Claim7 := { stood := { row := venueToldRow, standIns := [], harness := (true, "7ccdb6090e784bb94c5e6d89a6081624d4a601ef6fd3e7308a439184fffe165c"), looks := true }, kinds := [], alts := [], laidByText := true, laidKinds := [.data, .data, .data, .handle, .sentinel, .sentinel, .sentinel, .sentinel, .sentinel, .sentinel, .sentinel, .sentinel, .sentinel, .sentinel, .sentinel, .sentinel], laidTests := true, laidLooks := .later }
def VenueToldCardSaid : Prop := Claim7.holds Tryz.pinned (.plain (OpenSpec.ofChange venueToldSpec)) venueToldCard

/-- THE TIED CARD OF 'gavelhouselaw3.VenueParts'. -/
def venuePartsCard : Claim7 := { stood := { row := venuePartsRow, standIns := [], harness := (true, "7ccdb6090e784bb94c5e6d89a6081624d4a601ef6fd3e7308a439184fffe165c"), looks := true }, kinds := [], alts := [], laidByText := true, laidKinds := [.data, .data, .data, .handle, .sentinel, .sentinel, .sentinel, .sentinel, .sentinel, .sentinel, .sentinel, .sentinel, .sentinel, .sentinel, .sentinel, .sentinel], laidTests := true, laidLooks := .later }
def VenuePartsCardSaid : Prop := Claim7.holds Tryz.pinned (.plain (OpenSpec.ofChange venuePartsSpec)) venuePartsCard

/-- THE TIED CARD OF 'gavelhouselaw3.VenueKeeps'. -/
def venueKeepsCard : Claim7 := { stood := { row := venueKeepsRow, standIns := [], harness := (true, "7ccdb6090e784bb94c5e6d89a6081624d4a601ef6fd3e7308a439184fffe165c"), looks := true }, kinds := [], alts := [], laidByText := true, laidKinds := [.data, .data, .data, .handle, .sentinel, .sentinel, .sentinel, .sentinel, .sentinel, .sentinel, .sentinel, .sentinel, .sentinel, .sentinel, .sentinel, .sentinel], laidTests := true, laidLooks := .later }
def VenueKeepsCardSaid : Prop := Claim7.holds Tryz.pinned (.plain (OpenSpec.ofChange venueKeepsSpec)) venueKeepsCard

/-- THE TIED CARD OF 'gavelhouselaw3.VenueSteps'. -/
def venueStepsCard : Claim7 := { stood := { row := venueStepsRow, standIns := [], harness := (true, "7ccdb6090e784bb94c5e6d89a6081624d4a601ef6fd3e7308a439184fffe165c"), looks := true }, kinds := [], alts := [], laidByText := true, laidKinds := [.data, .data, .data, .handle, .sentinel, .sentinel, .sentinel, .sentinel, .sentinel, .sentinel, .sentinel, .sentinel, .sentinel, .sentinel, .sentinel, .sentinel], laidTests := true, laidLooks := .later }
def VenueStepsCardSaid : Prop := Claim7.holds Tryz.pinned (.plain (OpenSpec.ofChange venueStepsSpec)) venueStepsCard

/-- THE SECOND FORM's CARD OF 'gavelhouselaw3.VenueTold'. -/
def venueToldUptoCard : Claim7 := { stood := { row := venueToldUptoRow, standIns := [], harness := (true, "7ccdb6090e784bb94c5e6d89a6081624d4a601ef6fd3e7308a439184fffe165c"), looks := true }, kinds := [], alts := [], laidByText := true, laidKinds := [.data, .data, .data, .handle, .sentinel, .sentinel, .sentinel, .sentinel, .sentinel, .sentinel, .sentinel, .sentinel, .sentinel, .sentinel, .sentinel, .sentinel], laidTests := true, laidLooks := .later }
def VenueToldUptoCardSaid : Prop := Claim7.holds Tryz.pinned (.plain (OpenSpec.upto venueToldSpec)) venueToldUptoCard

/-- THE SECOND FORM's CARD OF 'gavelhouselaw3.VenueParts'. -/
def venuePartsUptoCard : Claim7 := { stood := { row := venuePartsUptoRow, standIns := [], harness := (true, "7ccdb6090e784bb94c5e6d89a6081624d4a601ef6fd3e7308a439184fffe165c"), looks := true }, kinds := [], alts := [], laidByText := true, laidKinds := [.data, .data, .data, .handle, .sentinel, .sentinel, .sentinel, .sentinel, .sentinel, .sentinel, .sentinel, .sentinel, .sentinel, .sentinel, .sentinel, .sentinel], laidTests := true, laidLooks := .later }
def VenuePartsUptoCardSaid : Prop := Claim7.holds Tryz.pinned (.plain (OpenSpec.upto venuePartsSpec)) venuePartsUptoCard

/-- THE SECOND FORM's CARD OF 'gavelhouselaw3.VenueKeeps'. -/
def venueKeepsUptoCard : Claim7 := { stood := { row := venueKeepsUptoRow, standIns := [], harness := (true, "7ccdb6090e784bb94c5e6d89a6081624d4a601ef6fd3e7308a439184fffe165c"), looks := true }, kinds := [], alts := [], laidByText := true, laidKinds := [.data, .data, .data, .handle, .sentinel, .sentinel, .sentinel, .sentinel, .sentinel, .sentinel, .sentinel, .sentinel, .sentinel, .sentinel, .sentinel, .sentinel], laidTests := true, laidLooks := .later }
def VenueKeepsUptoCardSaid : Prop := Claim7.holds Tryz.pinned (.plain (OpenSpec.upto venueKeepsSpec)) venueKeepsUptoCard

/-- THE SECOND FORM's CARD OF 'gavelhouselaw3.VenueSteps'. -/
def venueStepsUptoCard : Claim7 := { stood := { row := venueStepsUptoRow, standIns := [], harness := (true, "7ccdb6090e784bb94c5e6d89a6081624d4a601ef6fd3e7308a439184fffe165c"), looks := true }, kinds := [], alts := [], laidByText := true, laidKinds := [.data, .data, .data, .handle, .sentinel, .sentinel, .sentinel, .sentinel, .sentinel, .sentinel, .sentinel, .sentinel, .sentinel, .sentinel, .sentinel, .sentinel], laidTests := true, laidLooks := .later }
def VenueStepsUptoCardSaid : Prop := Claim7.holds Tryz.pinned (.plain (OpenSpec.upto venueStepsSpec)) venueStepsUptoCard
end Rows
end Go.Proofs.YtabbgpjofkaomaaGreatDoor
