/-
  DERIVED. GIVEN WITH THE SEED: THE CARDS: each row of YtmbboflakfokhaaGreatDoorRows.lean that lists a variable, with what it lists TIED to the program's text (the seventh form; the later family's looks); each row that meets fmt, with fmt's text TOLD by the authors' own Lean function (tested against real Go, not proved from fmt's source: count such statements apart). THE CARD IS WHAT COUNTS. Prove the row's statement (the work); the ties are given (YtmbboflakfokhaaGreatDoorTie.lean); close each card by the builder's one call (the guide's Derived/Test/ToyasCard.lean, 'card_holds'). Laid BY PROGRAM, IN A SANDBOX (cutbox-door.mjs). By AI agents, Wed Nov 11 2026. No macro, syntax, notation, axiom, sorry.
-/
import Derived.Test.YtmbboflakfokhaaGreatDoorRows
import GoSem.ClaimSeven
namespace Go.Proofs.YtmbboflakfokhaaGreatDoor
namespace Rows

/-- THE TIED CARD OF 'gavelhouselaw2.BatchActs'. -/
def batchActsCard : Claim7 := { stood := { row := batchActsRow, standIns := [], harness := (true, "609cd92ea39eb4e537d872a8109a047ff653410f04632cef9864ab64a5598d52"), looks := true }, kinds := [], alts := [], laidByText := true, laidKinds := [.handle, .sentinel, .sentinel, .sentinel, .sentinel, .sentinel, .sentinel, .sentinel, .sentinel, .sentinel, .sentinel, .sentinel, .sentinel], laidTests := true, laidLooks := .later }
def BatchActsCardSaid : Prop := Claim7.holds Tryz.pinned (.plain (OpenSpec.ofChange batchActsSpec)) batchActsCard

/-- THE SECOND FORM's CARD OF 'gavelhouselaw2.BatchActs'. -/
def batchActsUptoCard : Claim7 := { stood := { row := batchActsUptoRow, standIns := [], harness := (true, "609cd92ea39eb4e537d872a8109a047ff653410f04632cef9864ab64a5598d52"), looks := true }, kinds := [], alts := [], laidByText := true, laidKinds := [.handle, .sentinel, .sentinel, .sentinel, .sentinel, .sentinel, .sentinel, .sentinel, .sentinel, .sentinel, .sentinel, .sentinel, .sentinel], laidTests := true, laidLooks := .later }
def BatchActsUptoCardSaid : Prop := Claim7.holds Tryz.pinned (.plain (OpenSpec.upto batchActsSpec)) batchActsUptoCard
end Rows
end Go.Proofs.YtmbboflakfokhaaGreatDoor
