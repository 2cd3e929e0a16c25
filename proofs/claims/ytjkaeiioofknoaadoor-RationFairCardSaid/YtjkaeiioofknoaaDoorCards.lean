/-
  DERIVED. GIVEN WITH THE SEED: THE CARDS: each row of YtjkaeiioofknoaaDoorRows.lean that lists a variable, with what it lists TIED to the program's text (the seventh form; the later family's looks); each row that meets fmt, with fmt's text TOLD by the authors' own Lean function (tested against real Go, not proved from fmt's source: count such statements apart). THE CARD IS WHAT COUNTS. Prove the row's statement (the work); the ties are given (YtjkaeiioofknoaaDoorTie.lean); close each card by the builder's one call (the guide's Derived/Test/ToyasCard.lean, 'card_holds'). Laid BY PROGRAM, IN A SANDBOX (cutbox-door.mjs). By AI agents, Wed Nov 11 2026. No macro, syntax, notation, axiom, sorry.
-/
import Derived.Test.YtjkaeiioofknoaaDoorRows
import GoSem.ClaimSeven
namespace Go.Proofs.YtjkaeiioofknoaaDoor
namespace Rows

/-- THE TIED CARD OF 'gavelhouselaw1.CurveAdds'. -/
def curveAddsCard : Claim7 := { stood := { row := curveAddsRow, standIns := [], harness := (true, "86c5a6b99d83ec2b0370fe5cd446dd4de98c98e2f8c12ae86b24f874f0bbf032"), looks := true }, kinds := [], alts := [], laidByText := true, laidKinds := [.sentinel, .sentinel, .sentinel], laidTests := true, laidLooks := .later }
def CurveAddsCardSaid : Prop := Claim7.holds Tryd.pinned (.plain (OpenSpec.ofChange curveAddsSpec)) curveAddsCard

/-- THE TIED CARD OF 'gavelhouselaw1.ClearShifts'. -/
def clearShiftsCard : Claim7 := { stood := { row := clearShiftsRow, standIns := [], harness := (true, "86c5a6b99d83ec2b0370fe5cd446dd4de98c98e2f8c12ae86b24f874f0bbf032"), looks := true }, kinds := [], alts := [], laidByText := true, laidKinds := [.sentinel, .sentinel, .sentinel], laidTests := true, laidLooks := .later }
def ClearShiftsCardSaid : Prop := Claim7.holds Tryd.pinned (.plain (OpenSpec.ofChange clearShiftsSpec)) clearShiftsCard

/-- THE TIED CARD OF 'gavelhouselaw1.ClearBest'. -/
def clearBestCard : Claim7 := { stood := { row := clearBestRow, standIns := [], harness := (true, "86c5a6b99d83ec2b0370fe5cd446dd4de98c98e2f8c12ae86b24f874f0bbf032"), looks := true }, kinds := [], alts := [], laidByText := true, laidKinds := [.sentinel, .sentinel, .sentinel], laidTests := true, laidLooks := .later }
def ClearBestCardSaid : Prop := Claim7.holds Tryd.pinned (.plain (OpenSpec.ofChange clearBestSpec)) clearBestCard

/-- THE TIED CARD OF 'gavelhouselaw1.ClearPrices'. -/
def clearPricesCard : Claim7 := { stood := { row := clearPricesRow, standIns := [], harness := (true, "86c5a6b99d83ec2b0370fe5cd446dd4de98c98e2f8c12ae86b24f874f0bbf032"), looks := true }, kinds := [], alts := [], laidByText := true, laidKinds := [.handle, .sentinel, .sentinel, .sentinel, .sentinel, .sentinel, .sentinel, .sentinel, .sentinel, .sentinel, .sentinel, .sentinel, .sentinel], laidTests := true, laidLooks := .later }
def ClearPricesCardSaid : Prop := Claim7.holds Tryd.pinned (.plain (OpenSpec.ofChange clearPricesSpec)) clearPricesCard

/-- THE TIED CARD OF 'gavelhouselaw1.CurveFalls'. -/
def curveFallsCard : Claim7 := { stood := { row := curveFallsRow, standIns := [], harness := (true, "86c5a6b99d83ec2b0370fe5cd446dd4de98c98e2f8c12ae86b24f874f0bbf032"), looks := true }, kinds := [], alts := [], laidByText := true, laidKinds := [.sentinel, .sentinel, .sentinel], laidTests := true, laidLooks := .later }
def CurveFallsCardSaid : Prop := Claim7.holds Tryd.pinned (.plain (OpenSpec.ofChange curveFallsSpec)) curveFallsCard

/-- THE TIED CARD OF 'gavelhouselaw1.RationFair'. -/
def rationFairCard : Claim7 := { stood := { row := rationFairRow, standIns := [], harness := (true, "86c5a6b99d83ec2b0370fe5cd446dd4de98c98e2f8c12ae86b24f874f0bbf032"), looks := true }, kinds := [], alts := [], laidByText := true, laidKinds := [.sentinel, .sentinel, .sentinel, .sentinel], laidTests := true, laidLooks := .later }
def RationFairCardSaid : Prop := Claim7.holds Tryd.pinned (.plain (OpenSpec.ofChange rationFairSpec)) rationFairCard

/-- THE TIED CARD OF 'gavelhouselaw1.RationSame'. -/
def rationSameCard : Claim7 := { stood := { row := rationSameRow, standIns := [], harness := (true, "86c5a6b99d83ec2b0370fe5cd446dd4de98c98e2f8c12ae86b24f874f0bbf032"), looks := true }, kinds := [], alts := [], laidByText := true, laidKinds := [.sentinel, .sentinel, .sentinel, .sentinel], laidTests := true, laidLooks := .later }
def RationSameCardSaid : Prop := Claim7.holds Tryd.pinned (.plain (OpenSpec.ofChange rationSameSpec)) rationSameCard

/-- THE TIED CARD OF 'gavelhouselaw1.RationStreams'. -/
def rationStreamsCard : Claim7 := { stood := { row := rationStreamsRow, standIns := [], harness := (true, "86c5a6b99d83ec2b0370fe5cd446dd4de98c98e2f8c12ae86b24f874f0bbf032"), looks := true }, kinds := [], alts := [], laidByText := true, laidKinds := [.sentinel, .sentinel, .sentinel, .sentinel], laidTests := true, laidLooks := .later }
def RationStreamsCardSaid : Prop := Claim7.holds Tryd.pinned (.plain (OpenSpec.ofChange rationStreamsSpec)) rationStreamsCard

/-- THE TIED CARD OF 'gavelhouselaw1.CurveTells'. -/
def curveTellsCard : Claim7 := { stood := { row := curveTellsRow, standIns := [], harness := (true, "86c5a6b99d83ec2b0370fe5cd446dd4de98c98e2f8c12ae86b24f874f0bbf032"), looks := true }, kinds := [], alts := [], laidByText := true, laidKinds := [.handle, .sentinel, .sentinel, .sentinel, .sentinel, .sentinel, .sentinel, .sentinel, .sentinel, .sentinel, .sentinel, .sentinel, .sentinel], laidTests := true, laidLooks := .later }
def CurveTellsCardSaid : Prop := Claim7.holds Tryd.pinned (.plain (OpenSpec.ofChange curveTellsSpec)) curveTellsCard

/-- THE TIED CARD OF 'gavelhouselaw1.RationFills'. -/
def rationFillsCard : Claim7 := { stood := { row := rationFillsRow, standIns := [], harness := (true, "86c5a6b99d83ec2b0370fe5cd446dd4de98c98e2f8c12ae86b24f874f0bbf032"), looks := true }, kinds := [], alts := [], laidByText := true, laidKinds := [.handle, .sentinel, .sentinel, .sentinel, .sentinel, .sentinel, .sentinel, .sentinel, .sentinel, .sentinel, .sentinel, .sentinel, .sentinel], laidTests := true, laidLooks := .later }
def RationFillsCardSaid : Prop := Claim7.holds Tryd.pinned (.plain (OpenSpec.ofChange rationFillsSpec)) rationFillsCard

/-- THE SECOND FORM's CARD OF 'gavelhouselaw1.CurveAdds'. -/
def curveAddsUptoCard : Claim7 := { stood := { row := curveAddsUptoRow, standIns := [], harness := (true, "86c5a6b99d83ec2b0370fe5cd446dd4de98c98e2f8c12ae86b24f874f0bbf032"), looks := true }, kinds := [], alts := [], laidByText := true, laidKinds := [.sentinel, .sentinel, .sentinel], laidTests := true, laidLooks := .later }
def CurveAddsUptoCardSaid : Prop := Claim7.holds Tryd.pinned (.plain (OpenSpec.upto curveAddsSpec)) curveAddsUptoCard

/-- THE SECOND FORM's CARD OF 'gavelhouselaw1.ClearShifts'. -/
def clearShiftsUptoCard : Claim7 := { stood := { row := clearShiftsUptoRow, standIns := [], harness := (true, "86c5a6b99d83ec2b0370fe5cd446dd4de98c98e2f8c12ae86b24f874f0bbf032"), looks := true }, kinds := [], alts := [], laidByText := true, laidKinds := [.sentinel, .sentinel, .sentinel], laidTests := true, laidLooks := .later }
def ClearShiftsUptoCardSaid : Prop := Claim7.holds Tryd.pinned (.plain (OpenSpec.upto clearShiftsSpec)) clearShiftsUptoCard

/-- THE SECOND FORM's CARD OF 'gavelhouselaw1.ClearBest'. -/
def clearBestUptoCard : Claim7 := { stood := { row := clearBestUptoRow, standIns := [], harness := (true, "86c5a6b99d83ec2b0370fe5cd446dd4de98c98e2f8c12ae86b24f874f0bbf032"), looks := true }, kinds := [], alts := [], laidByText := true, laidKinds := [.sentinel, .sentinel, .sentinel], laidTests := true, laidLooks := .later }
def ClearBestUptoCardSaid : Prop := Claim7.holds Tryd.pinned (.plain (OpenSpec.upto clearBestSpec)) clearBestUptoCard

/-- THE SECOND FORM's CARD OF 'gavelhouselaw1.ClearPrices'. -/
def clearPricesUptoCard : Claim7 := { stood := { row := clearPricesUptoRow, standIns := [], harness := (true, "86c5a6b99d83ec2b0370fe5cd446dd4de98c98e2f8c12ae86b24f874f0bbf032"), looks := true }, kinds := [], alts := [], laidByText := true, laidKinds := [.handle, .sentinel, .sentinel, .sentinel, .sentinel, .sentinel, .sentinel, .sentinel, .sentinel, .sentinel, .sentinel, .sentinel, .sentinel], laidTests := true, laidLooks := .later }
def ClearPricesUptoCardSaid : Prop := Claim7.holds Tryd.pinned (.plain (OpenSpec.upto clearPricesSpec)) clearPricesUptoCard

/-- THE SECOND FORM's CARD OF 'gavelhouselaw1.CurveFalls'. -/
def curveFallsUptoCard : Claim7 := { stood := { row := curveFallsUptoRow, standIns := [], harness := (true, "86c5a6b99d83ec2b0370fe5cd446dd4de98c98e2f8c12ae86b24f874f0bbf032"), looks := true }, kinds := [], alts := [], laidByText := true, laidKinds := [.sentinel, .sentinel, .sentinel], laidTests := true, laidLooks := .later }
def CurveFallsUptoCardSaid : Prop := Claim7.holds Tryd.pinned (.plain (OpenSpec.upto curveFallsSpec)) curveFallsUptoCard

/-- THE SECOND FORM's CARD OF 'gavelhouselaw1.RationFair'. -/
def rationFairUptoCard : Claim7 := { stood := { row := rationFairUptoRow, standIns := [], harness := (true, "86c5a6b99d83ec2b0370fe5cd446dd4de98c98e2f8c12ae86b24f874f0bbf032"), looks := true }, kinds := [], alts := [], laidByText := true, laidKinds := [.sentinel, .sentinel, .sentinel, .sentinel], laidTests := true, laidLooks := .later }
def RationFairUptoCardSaid : Prop := Claim7.holds Tryd.pinned (.plain (OpenSpec.upto rationFairSpec)) rationFairUptoCard

/-- THE SECOND FORM's CARD OF 'gavelhouselaw1.RationSame'. -/
def rationSameUptoCard : Claim7 := { stood := { row := rationSameUptoRow, standIns := [], harness := (true, "86c5a6b99d83ec2b0370fe5cd446dd4de98c98e2f8c12ae86b24f874f0bbf032"), looks := true }, kinds := [], alts := [], laidByText := true, laidKinds := [.sentinel, .sentinel, .sentinel, .sentinel], laidTests := true, laidLooks := .later }
def RationSameUptoCardSaid : Prop := Claim7.holds Tryd.pinned (.plain (OpenSpec.upto rationSameSpec)) rationSameUptoCard

/-- THE SECOND FORM's CARD OF 'gavelhouselaw1.RationStreams'. -/
def rationStreamsUptoCard : Claim7 := { stood := { row := rationStreamsUptoRow, standIns := [], harness := (true, "86c5a6b99d83ec2b0370fe5cd446dd4de98c98e2f8c12ae86b24f874f0bbf032"), looks := true }, kinds := [], alts := [], laidByText := true, laidKinds := [.sentinel, .sentinel, .sentinel, .sentinel], laidTests := true, laidLooks := .later }
def RationStreamsUptoCardSaid : Prop := Claim7.holds Tryd.pinned (.plain (OpenSpec.upto rationStreamsSpec)) rationStreamsUptoCard

/-- THE SECOND FORM's CARD OF 'gavelhouselaw1.CurveTells'. -/
def curveTellsUptoCard : Claim7 := { stood := { row := curveTellsUptoRow, standIns := [], harness := (true, "86c5a6b99d83ec2b0370fe5cd446dd4de98c98e2f8c12ae86b24f874f0bbf032"), looks := true }, kinds := [], alts := [], laidByText := true, laidKinds := [.handle, .sentinel, .sentinel, .sentinel, .sentinel, .sentinel, .sentinel, .sentinel, .sentinel, .sentinel, .sentinel, .sentinel, .sentinel], laidTests := true, laidLooks := .later }
def CurveTellsUptoCardSaid : Prop := Claim7.holds Tryd.pinned (.plain (OpenSpec.upto curveTellsSpec)) curveTellsUptoCard

/-- THE SECOND FORM's CARD OF 'gavelhouselaw1.RationFills'. -/
def rationFillsUptoCard : Claim7 := { stood := { row := rationFillsUptoRow, standIns := [], harness := (true, "86c5a6b99d83ec2b0370fe5cd446dd4de98c98e2f8c12ae86b24f874f0bbf032"), looks := true }, kinds := [], alts := [], laidByText := true, laidKinds := [.handle, .sentinel, .sentinel, .sentinel, .sentinel, .sentinel, .sentinel, .sentinel, .sentinel, .sentinel, .sentinel, .sentinel, .sentinel], laidTests := true, laidLooks := .later }
def RationFillsUptoCardSaid : Prop := Claim7.holds Tryd.pinned (.plain (OpenSpec.upto rationFillsSpec)) rationFillsUptoCard
end Rows
end Go.Proofs.YtjkaeiioofknoaaDoor
