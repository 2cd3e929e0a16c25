/-
  DERIVED. GIVEN WITH THE SEED: THE CARDS: each row of YthngmmhoakegeaaDoorRows.lean that lists a variable, with what it lists TIED to the program's text (the seventh form; the later family's looks); each row that meets fmt, with fmt's text TOLD by the authors' own Lean function (tested against real Go, not proved from fmt's source: count such statements apart). THE CARD IS WHAT COUNTS. Prove the row's statement (the work); the ties are given (YthngmmhoakegeaaDoorTie.lean); close each card by the builder's one call (the guide's Derived/Test/ToyasCard.lean, 'card_holds'). Laid BY PROGRAM, IN A SANDBOX (cutbox-door.mjs). By AI agents, Wed Nov 11 2026. No macro, syntax, notation, axiom, sorry.
-/
import Derived.Test.YthngmmhoakegeaaDoorRows
import GoSem.ClaimSeven
namespace Go.Proofs.YthngmmhoakegeaaDoor
namespace Rows

/-- THE TIED CARD OF 'gavelhouselaw3.IntakeWaits'. -/
def intakeWaitsCard : Claim7 := { stood := { row := intakeWaitsRow, standIns := [], harness := (true, "e7d564da3581150a965d6669feee329687f4414b829ce5140cfa51c995fd0e44"), looks := true }, kinds := [], alts := [], laidByText := true, laidKinds := [.sentinel, .sentinel, .sentinel], laidTests := true, laidLooks := .later }
def IntakeWaitsCardSaid : Prop := Claim7.holds Tryd.pinned (.plain (OpenSpec.ofChange intakeWaitsSpec)) intakeWaitsCard

/-- THE TIED CARD OF 'gavelhouselaw2.BandHalts'. -/
def bandHaltsCard : Claim7 := { stood := { row := bandHaltsRow, standIns := [], harness := (true, "e7d564da3581150a965d6669feee329687f4414b829ce5140cfa51c995fd0e44"), looks := true }, kinds := [], alts := [], laidByText := true, laidKinds := [.sentinel], laidTests := true, laidLooks := .later }
def BandHaltsCardSaid : Prop := Claim7.holds Tryd.pinned (.plain (OpenSpec.ofChange bandHaltsSpec)) bandHaltsCard

/-- THE TIED CARD OF 'gavelhouselaw3.IntakeKeeps'. -/
def intakeKeepsCard : Claim7 := { stood := { row := intakeKeepsRow, standIns := [], harness := (true, "e7d564da3581150a965d6669feee329687f4414b829ce5140cfa51c995fd0e44"), looks := true }, kinds := [], alts := [], laidByText := true, laidKinds := [.sentinel, .sentinel, .sentinel], laidTests := true, laidLooks := .later }
def IntakeKeepsCardSaid : Prop := Claim7.holds Tryd.pinned (.plain (OpenSpec.ofChange intakeKeepsSpec)) intakeKeepsCard

/-- THE TIED CARD OF 'gavelhouselaw1.WireApart'. -/
def wireApartCard : Claim7 := { stood := { row := wireApartRow, standIns := [], harness := (true, "e7d564da3581150a965d6669feee329687f4414b829ce5140cfa51c995fd0e44"), looks := true }, kinds := [], alts := [], laidByText := true, laidKinds := [.sentinel, .sentinel, .sentinel], laidTests := true, laidLooks := .later }
def WireApartCardSaid : Prop := Claim7.holds Tryd.pinned (.plain (OpenSpec.ofChange wireApartSpec)) wireApartCard

/-- THE TIED CARD OF 'gavelhouselaw2.SessionRises'. -/
def sessionRisesCard : Claim7 := { stood := { row := sessionRisesRow, standIns := [], harness := (true, "e7d564da3581150a965d6669feee329687f4414b829ce5140cfa51c995fd0e44"), looks := true }, kinds := [], alts := [], laidByText := true, laidKinds := [.sentinel, .sentinel, .sentinel, .sentinel, .sentinel], laidTests := true, laidLooks := .later }
def SessionRisesCardSaid : Prop := Claim7.holds Tryd.pinned (.plain (OpenSpec.ofChange sessionRisesSpec)) sessionRisesCard

/-- THE TIED CARD OF 'gavelhouselaw1.Names'. -/
def namesCard : Claim7 := { stood := { row := namesRow, standIns := [], harness := (true, "e7d564da3581150a965d6669feee329687f4414b829ce5140cfa51c995fd0e44"), looks := true }, kinds := [], alts := [], laidByText := true, laidKinds := [.handle, .sentinel, .sentinel, .sentinel, .sentinel, .sentinel, .sentinel, .sentinel, .sentinel, .sentinel, .sentinel, .sentinel, .sentinel], laidTests := true, laidLooks := .later }
def NamesCardSaid : Prop := Claim7.holds Tryd.pinned (.plain (OpenSpec.ofChange namesSpec)) namesCard

/-- THE TIED CARD OF 'gavelhouselaw2.BandNext'. -/
def bandNextCard : Claim7 := { stood := { row := bandNextRow, standIns := [], harness := (true, "e7d564da3581150a965d6669feee329687f4414b829ce5140cfa51c995fd0e44"), looks := true }, kinds := [], alts := [], laidByText := true, laidKinds := [.handle, .sentinel, .sentinel, .sentinel, .sentinel, .sentinel, .sentinel, .sentinel, .sentinel, .sentinel, .sentinel, .sentinel, .sentinel], laidTests := true, laidLooks := .later }
def BandNextCardSaid : Prop := Claim7.holds Tryd.pinned (.plain (OpenSpec.ofChange bandNextSpec)) bandNextCard

/-- THE TIED CARD OF 'gavelhouselaw3.IntakeActs'. -/
def intakeActsCard : Claim7 := { stood := { row := intakeActsRow, standIns := [], harness := (true, "e7d564da3581150a965d6669feee329687f4414b829ce5140cfa51c995fd0e44"), looks := true }, kinds := [], alts := [], laidByText := true, laidKinds := [.handle, .sentinel, .sentinel, .sentinel, .sentinel, .sentinel, .sentinel, .sentinel, .sentinel, .sentinel, .sentinel, .sentinel, .sentinel], laidTests := true, laidLooks := .later }
def IntakeActsCardSaid : Prop := Claim7.holds Tryd.pinned (.plain (OpenSpec.ofChange intakeActsSpec)) intakeActsCard

/-- THE TIED CARD OF 'gavelhouselaw2.SessionTakes'. -/
def sessionTakesCard : Claim7 := { stood := { row := sessionTakesRow, standIns := [], harness := (true, "e7d564da3581150a965d6669feee329687f4414b829ce5140cfa51c995fd0e44"), looks := true }, kinds := [], alts := [], laidByText := true, laidKinds := [.handle, .sentinel, .sentinel, .sentinel, .sentinel, .sentinel, .sentinel, .sentinel, .sentinel, .sentinel, .sentinel, .sentinel, .sentinel], laidTests := true, laidLooks := .later }
def SessionTakesCardSaid : Prop := Claim7.holds Tryd.pinned (.plain (OpenSpec.ofChange sessionTakesSpec)) sessionTakesCard

/-- THE TIED CARD OF 'gavelhouselaw1.WireFrames'. -/
def wireFramesCard : Claim7 := { stood := { row := wireFramesRow, standIns := [], harness := (true, "e7d564da3581150a965d6669feee329687f4414b829ce5140cfa51c995fd0e44"), looks := true }, kinds := [], alts := [], laidByText := true, laidKinds := [.handle, .sentinel, .sentinel, .sentinel, .sentinel, .sentinel, .sentinel, .sentinel, .sentinel, .sentinel, .sentinel, .sentinel, .sentinel], laidTests := true, laidLooks := .later }
def WireFramesCardSaid : Prop := Claim7.holds Tryd.pinned (.plain (OpenSpec.ofChange wireFramesSpec)) wireFramesCard

/-- THE TIED CARD OF 'gavelhouselaw1.WireBursts'. -/
def wireBurstsCard : Claim7 := { stood := { row := wireBurstsRow, standIns := [], harness := (true, "e7d564da3581150a965d6669feee329687f4414b829ce5140cfa51c995fd0e44"), looks := true }, kinds := [], alts := [], laidByText := true, laidKinds := [.handle, .sentinel, .sentinel, .sentinel, .sentinel, .sentinel, .sentinel, .sentinel, .sentinel, .sentinel, .sentinel, .sentinel, .sentinel], laidTests := true, laidLooks := .later }
def WireBurstsCardSaid : Prop := Claim7.holds Tryd.pinned (.plain (OpenSpec.ofChange wireBurstsSpec)) wireBurstsCard

/-- THE TIED CARD OF 'gavelhouselaw1.WireStreams'. -/
def wireStreamsCard : Claim7 := { stood := { row := wireStreamsRow, standIns := [], harness := (true, "e7d564da3581150a965d6669feee329687f4414b829ce5140cfa51c995fd0e44"), looks := true }, kinds := [], alts := [], laidByText := true, laidKinds := [.handle, .sentinel, .sentinel, .sentinel, .sentinel, .sentinel, .sentinel, .sentinel, .sentinel, .sentinel, .sentinel, .sentinel, .sentinel], laidTests := true, laidLooks := .later }
def WireStreamsCardSaid : Prop := Claim7.holds Tryd.pinned (.plain (OpenSpec.ofChange wireStreamsSpec)) wireStreamsCard

/-- THE SECOND FORM's CARD OF 'gavelhouselaw3.IntakeWaits'. -/
def intakeWaitsUptoCard : Claim7 := { stood := { row := intakeWaitsUptoRow, standIns := [], harness := (true, "e7d564da3581150a965d6669feee329687f4414b829ce5140cfa51c995fd0e44"), looks := true }, kinds := [], alts := [], laidByText := true, laidKinds := [.sentinel, .sentinel, .sentinel], laidTests := true, laidLooks := .later }
def IntakeWaitsUptoCardSaid : Prop := Claim7.holds Tryd.pinned (.plain (OpenSpec.upto intakeWaitsSpec)) intakeWaitsUptoCard

/-- THE SECOND FORM's CARD OF 'gavelhouselaw2.BandHalts'. -/
def bandHaltsUptoCard : Claim7 := { stood := { row := bandHaltsUptoRow, standIns := [], harness := (true, "e7d564da3581150a965d6669feee329687f4414b829ce5140cfa51c995fd0e44"), looks := true }, kinds := [], alts := [], laidByText := true, laidKinds := [.sentinel], laidTests := true, laidLooks := .later }
def BandHaltsUptoCardSaid : Prop := Claim7.holds Tryd.pinned (.plain (OpenSpec.upto bandHaltsSpec)) bandHaltsUptoCard

/-- THE SECOND FORM's CARD OF 'gavelhouselaw3.IntakeKeeps'. -/
def intakeKeepsUptoCard : Claim7 := { stood := { row := intakeKeepsUptoRow, standIns := [], harness := (true, "e7d564da3581150a965d6669feee329687f4414b829ce5140cfa51c995fd0e44"), looks := true }, kinds := [], alts := [], laidByText := true, laidKinds := [.sentinel, .sentinel, .sentinel], laidTests := true, laidLooks := .later }
def IntakeKeepsUptoCardSaid : Prop := Claim7.holds Tryd.pinned (.plain (OpenSpec.upto intakeKeepsSpec)) intakeKeepsUptoCard

/-- THE SECOND FORM's CARD OF 'gavelhouselaw1.WireApart'. -/
def wireApartUptoCard : Claim7 := { stood := { row := wireApartUptoRow, standIns := [], harness := (true, "e7d564da3581150a965d6669feee329687f4414b829ce5140cfa51c995fd0e44"), looks := true }, kinds := [], alts := [], laidByText := true, laidKinds := [.sentinel, .sentinel, .sentinel], laidTests := true, laidLooks := .later }
def WireApartUptoCardSaid : Prop := Claim7.holds Tryd.pinned (.plain (OpenSpec.upto wireApartSpec)) wireApartUptoCard

/-- THE SECOND FORM's CARD OF 'gavelhouselaw2.SessionRises'. -/
def sessionRisesUptoCard : Claim7 := { stood := { row := sessionRisesUptoRow, standIns := [], harness := (true, "e7d564da3581150a965d6669feee329687f4414b829ce5140cfa51c995fd0e44"), looks := true }, kinds := [], alts := [], laidByText := true, laidKinds := [.sentinel, .sentinel, .sentinel, .sentinel, .sentinel], laidTests := true, laidLooks := .later }
def SessionRisesUptoCardSaid : Prop := Claim7.holds Tryd.pinned (.plain (OpenSpec.upto sessionRisesSpec)) sessionRisesUptoCard

/-- THE SECOND FORM's CARD OF 'gavelhouselaw1.Names'. -/
def namesUptoCard : Claim7 := { stood := { row := namesUptoRow, standIns := [], harness := (true, "e7d564da3581150a965d6669feee329687f4414b829ce5140cfa51c995fd0e44"), looks := true }, kinds := [], alts := [], laidByText := true, laidKinds := [.handle, .sentinel, .sentinel, .sentinel, .sentinel, .sentinel, .sentinel, .sentinel, .sentinel, .sentinel, .sentinel, .sentinel, .sentinel], laidTests := true, laidLooks := .later }
def NamesUptoCardSaid : Prop := Claim7.holds Tryd.pinned (.plain (OpenSpec.upto namesSpec)) namesUptoCard

/-- THE SECOND FORM's CARD OF 'gavelhouselaw2.BandNext'. -/
def bandNextUptoCard : Claim7 := { stood := { row := bandNextUptoRow, standIns := [], harness := (true, "e7d564da3581150a965d6669feee329687f4414b829ce5140cfa51c995fd0e44"), looks := true }, kinds := [], alts := [], laidByText := true, laidKinds := [.handle, .sentinel, .sentinel, .sentinel, .sentinel, .sentinel, .sentinel, .sentinel, .sentinel, .sentinel, .sentinel, .sentinel, .sentinel], laidTests := true, laidLooks := .later }
def BandNextUptoCardSaid : Prop := Claim7.holds Tryd.pinned (.plain (OpenSpec.upto bandNextSpec)) bandNextUptoCard

/-- THE SECOND FORM's CARD OF 'gavelhouselaw3.IntakeActs'. -/
def intakeActsUptoCard : Claim7 := { stood := { row := intakeActsUptoRow, standIns := [], harness := (true, "e7d564da3581150a965d6669feee329687f4414b829ce5140cfa51c995fd0e44"), looks := true }, kinds := [], alts := [], laidByText := true, laidKinds := [.handle, .sentinel, .sentinel, .sentinel, .sentinel, .sentinel, .sentinel, .sentinel, .sentinel, .sentinel, .sentinel, .sentinel, .sentinel], laidTests := true, laidLooks := .later }
def IntakeActsUptoCardSaid : Prop := Claim7.holds Tryd.pinned (.plain (OpenSpec.upto intakeActsSpec)) intakeActsUptoCard

/-- THE SECOND FORM's CARD OF 'gavelhouselaw2.SessionTakes'. -/
def sessionTakesUptoCard : Claim7 := { stood := { row := sessionTakesUptoRow, standIns := [], harness := (true, "e7d564da3581150a965d6669feee329687f4414b829ce5140cfa51c995fd0e44"), looks := true }, kinds := [], alts := [], laidByText := true, laidKinds := [.handle, .sentinel, .sentinel, .sentinel, .sentinel, .sentinel, .sentinel, .sentinel, .sentinel, .sentinel, .sentinel, .sentinel, .sentinel], laidTests := true, laidLooks := .later }
def SessionTakesUptoCardSaid : Prop := Claim7.holds Tryd.pinned (.plain (OpenSpec.upto sessionTakesSpec)) sessionTakesUptoCard

/-- THE SECOND FORM's CARD OF 'gavelhouselaw1.WireFrames'. -/
def wireFramesUptoCard : Claim7 := { stood := { row := wireFramesUptoRow, standIns := [], harness := (true, "e7d564da3581150a965d6669feee329687f4414b829ce5140cfa51c995fd0e44"), looks := true }, kinds := [], alts := [], laidByText := true, laidKinds := [.handle, .sentinel, .sentinel, .sentinel, .sentinel, .sentinel, .sentinel, .sentinel, .sentinel, .sentinel, .sentinel, .sentinel, .sentinel], laidTests := true, laidLooks := .later }
def WireFramesUptoCardSaid : Prop := Claim7.holds Tryd.pinned (.plain (OpenSpec.upto wireFramesSpec)) wireFramesUptoCard

/-- THE SECOND FORM's CARD OF 'gavelhouselaw1.WireBursts'. -/
def wireBurstsUptoCard : Claim7 := { stood := { row := wireBurstsUptoRow, standIns := [], harness := (true, "e7d564da3581150a965d6669feee329687f4414b829ce5140cfa51c995fd0e44"), looks := true }, kinds := [], alts := [], laidByText := true, laidKinds := [.handle, .sentinel, .sentinel, .sentinel, .sentinel, .sentinel, .sentinel, .sentinel, .sentinel, .sentinel, .sentinel, .sentinel, .sentinel], laidTests := true, laidLooks := .later }
def WireBurstsUptoCardSaid : Prop := Claim7.holds Tryd.pinned (.plain (OpenSpec.upto wireBurstsSpec)) wireBurstsUptoCard

/-- THE SECOND FORM's CARD OF 'gavelhouselaw1.WireStreams'. -/
def wireStreamsUptoCard : Claim7 := { stood := { row := wireStreamsUptoRow, standIns := [], harness := (true, "e7d564da3581150a965d6669feee329687f4414b829ce5140cfa51c995fd0e44"), looks := true }, kinds := [], alts := [], laidByText := true, laidKinds := [.handle, .sentinel, .sentinel, .sentinel, .sentinel, .sentinel, .sentinel, .sentinel, .sentinel, .sentinel, .sentinel, .sentinel, .sentinel], laidTests := true, laidLooks := .later }
def WireStreamsUptoCardSaid : Prop := Claim7.holds Tryd.pinned (.plain (OpenSpec.upto wireStreamsSpec)) wireStreamsUptoCard
end Rows
end Go.Proofs.YthngmmhoakegeaaDoor
