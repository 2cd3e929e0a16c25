/-
  DERIVED. GIVEN WITH THE SEED: THE CARDS: each row of YtfeeibealokhfaaDoorRows.lean that lists a variable, with what it lists TIED to the program's text (the seventh form; the later family's looks); each row that meets fmt, with fmt's text TOLD by the authors' own Lean function (tested against real Go, not proved from fmt's source: count such statements apart). THE CARD IS WHAT COUNTS. Prove the row's statement (the work); the ties are given (YtfeeibealokhfaaDoorTie.lean); close each card by the builder's one call (the guide's Derived/Test/ToyasCard.lean, 'card_holds'). Laid BY PROGRAM, IN A SANDBOX (cutbox-door.mjs). By AI agents, Wed Nov 11 2026. No macro, syntax, notation, axiom, sorry.
-/
import Derived.Test.YtfeeibealokhfaaDoorRows
import GoSem.ClaimSeven
namespace Go.Proofs.YtfeeibealokhfaaDoor
namespace Rows

/-- THE TIED CARD OF 'gavelhouselaw2.PurseBack'. -/
def purseBackCard : Claim7 := { stood := { row := purseBackRow, standIns := [], harness := (true, "c1765ac2b715e316095bfe7e8c83f0bd73165ead993b983d3336e78097702fbb"), looks := true }, kinds := [], alts := [], laidByText := true, laidKinds := [.sentinel, .sentinel, .sentinel], laidTests := true, laidLooks := .later }
def PurseBackCardSaid : Prop := Claim7.holds Tryd.pinned (.plain (OpenSpec.ofChange purseBackSpec)) purseBackCard

/-- THE TIED CARD OF 'gavelhouselaw1.TapeReads'. -/
def tapeReadsCard : Claim7 := { stood := { row := tapeReadsRow, standIns := [], harness := (true, "c1765ac2b715e316095bfe7e8c83f0bd73165ead993b983d3336e78097702fbb"), looks := true }, kinds := [], alts := [], laidByText := true, laidKinds := [.sentinel, .sentinel, .sentinel, .sentinel], laidTests := true, laidLooks := .later }
def TapeReadsCardSaid : Prop := Claim7.holds Tryd.pinned (.plain (OpenSpec.ofChange tapeReadsSpec)) tapeReadsCard

/-- THE TIED CARD OF 'gavelhouselaw2.BookOrder'. -/
def bookOrderCard : Claim7 := { stood := { row := bookOrderRow, standIns := [], harness := (true, "c1765ac2b715e316095bfe7e8c83f0bd73165ead993b983d3336e78097702fbb"), looks := true }, kinds := [], alts := [], laidByText := true, laidKinds := [.sentinel, .sentinel, .sentinel, .sentinel], laidTests := true, laidLooks := .later }
def BookOrderCardSaid : Prop := Claim7.holds Tryd.pinned (.plain (OpenSpec.ofChange bookOrderSpec)) bookOrderCard

/-- THE TIED CARD OF 'gavelhouselaw1.TapeCuts'. -/
def tapeCutsCard : Claim7 := { stood := { row := tapeCutsRow, standIns := [], harness := (true, "c1765ac2b715e316095bfe7e8c83f0bd73165ead993b983d3336e78097702fbb"), looks := true }, kinds := [], alts := [], laidByText := true, laidKinds := [.sentinel, .sentinel, .sentinel, .sentinel], laidTests := true, laidLooks := .later }
def TapeCutsCardSaid : Prop := Claim7.holds Tryd.pinned (.plain (OpenSpec.ofChange tapeCutsSpec)) tapeCutsCard

/-- THE TIED CARD OF 'gavelhouselaw2.PurseKeeps'. -/
def purseKeepsCard : Claim7 := { stood := { row := purseKeepsRow, standIns := [], harness := (true, "c1765ac2b715e316095bfe7e8c83f0bd73165ead993b983d3336e78097702fbb"), looks := true }, kinds := [], alts := [], laidByText := true, laidKinds := [.sentinel, .sentinel, .sentinel, .sentinel, .sentinel], laidTests := true, laidLooks := .later }
def PurseKeepsCardSaid : Prop := Claim7.holds Tryd.pinned (.plain (OpenSpec.ofChange purseKeepsSpec)) purseKeepsCard

/-- THE TIED CARD OF 'gavelhouselaw1.TapeActs'. -/
def tapeActsCard : Claim7 := { stood := { row := tapeActsRow, standIns := [], harness := (true, "c1765ac2b715e316095bfe7e8c83f0bd73165ead993b983d3336e78097702fbb"), looks := true }, kinds := [], alts := [], laidByText := true, laidKinds := [.handle, .sentinel, .sentinel, .sentinel, .sentinel, .sentinel, .sentinel, .sentinel, .sentinel, .sentinel, .sentinel, .sentinel, .sentinel], laidTests := true, laidLooks := .later }
def TapeActsCardSaid : Prop := Claim7.holds Tryd.pinned (.plain (OpenSpec.ofChange tapeActsSpec)) tapeActsCard

/-- THE TIED CARD OF 'gavelhouselaw2.PursePays'. -/
def pursePaysCard : Claim7 := { stood := { row := pursePaysRow, standIns := [], harness := (true, "c1765ac2b715e316095bfe7e8c83f0bd73165ead993b983d3336e78097702fbb"), looks := true }, kinds := [], alts := [], laidByText := true, laidKinds := [.handle, .sentinel, .sentinel, .sentinel, .sentinel, .sentinel, .sentinel, .sentinel, .sentinel, .sentinel, .sentinel, .sentinel, .sentinel], laidTests := true, laidLooks := .later }
def PursePaysCardSaid : Prop := Claim7.holds Tryd.pinned (.plain (OpenSpec.ofChange pursePaysSpec)) pursePaysCard

/-- THE TIED CARD OF 'gavelhouselaw2.BookKeeps'. -/
def bookKeepsCard : Claim7 := { stood := { row := bookKeepsRow, standIns := [], harness := (true, "c1765ac2b715e316095bfe7e8c83f0bd73165ead993b983d3336e78097702fbb"), looks := true }, kinds := [], alts := [], laidByText := true, laidKinds := [.sentinel, .sentinel, .sentinel, .sentinel], laidTests := true, laidLooks := .later }
def BookKeepsCardSaid : Prop := Claim7.holds Tryd.pinned (.plain (OpenSpec.ofChange bookKeepsSpec)) bookKeepsCard

/-- THE TIED CARD OF 'gavelhouselaw2.BookActs'. -/
def bookActsCard : Claim7 := { stood := { row := bookActsRow, standIns := [], harness := (true, "c1765ac2b715e316095bfe7e8c83f0bd73165ead993b983d3336e78097702fbb"), looks := true }, kinds := [], alts := [], laidByText := true, laidKinds := [.handle, .sentinel, .sentinel, .sentinel, .sentinel, .sentinel, .sentinel, .sentinel, .sentinel, .sentinel, .sentinel, .sentinel, .sentinel], laidTests := true, laidLooks := .later }
def BookActsCardSaid : Prop := Claim7.holds Tryd.pinned (.plain (OpenSpec.ofChange bookActsSpec)) bookActsCard

/-- THE SECOND FORM's CARD OF 'gavelhouselaw2.PurseBack'. -/
def purseBackUptoCard : Claim7 := { stood := { row := purseBackUptoRow, standIns := [], harness := (true, "c1765ac2b715e316095bfe7e8c83f0bd73165ead993b983d3336e78097702fbb"), looks := true }, kinds := [], alts := [], laidByText := true, laidKinds := [.sentinel, .sentinel, .sentinel], laidTests := true, laidLooks := .later }
def PurseBackUptoCardSaid : Prop := Claim7.holds Tryd.pinned (.plain (OpenSpec.upto purseBackSpec)) purseBackUptoCard

/-- THE SECOND FORM's CARD OF 'gavelhouselaw1.TapeReads'. -/
def tapeReadsUptoCard : Claim7 := { stood := { row := tapeReadsUptoRow, standIns := [], harness := (true, "c1765ac2b715e316095bfe7e8c83f0bd73165ead993b983d3336e78097702fbb"), looks := true }, kinds := [], alts := [], laidByText := true, laidKinds := [.sentinel, .sentinel, .sentinel, .sentinel], laidTests := true, laidLooks := .later }
def TapeReadsUptoCardSaid : Prop := Claim7.holds Tryd.pinned (.plain (OpenSpec.upto tapeReadsSpec)) tapeReadsUptoCard

/-- THE SECOND FORM's CARD OF 'gavelhouselaw2.BookOrder'. -/
def bookOrderUptoCard : Claim7 := { stood := { row := bookOrderUptoRow, standIns := [], harness := (true, "c1765ac2b715e316095bfe7e8c83f0bd73165ead993b983d3336e78097702fbb"), looks := true }, kinds := [], alts := [], laidByText := true, laidKinds := [.sentinel, .sentinel, .sentinel, .sentinel], laidTests := true, laidLooks := .later }
def BookOrderUptoCardSaid : Prop := Claim7.holds Tryd.pinned (.plain (OpenSpec.upto bookOrderSpec)) bookOrderUptoCard

/-- THE SECOND FORM's CARD OF 'gavelhouselaw1.TapeCuts'. -/
def tapeCutsUptoCard : Claim7 := { stood := { row := tapeCutsUptoRow, standIns := [], harness := (true, "c1765ac2b715e316095bfe7e8c83f0bd73165ead993b983d3336e78097702fbb"), looks := true }, kinds := [], alts := [], laidByText := true, laidKinds := [.sentinel, .sentinel, .sentinel, .sentinel], laidTests := true, laidLooks := .later }
def TapeCutsUptoCardSaid : Prop := Claim7.holds Tryd.pinned (.plain (OpenSpec.upto tapeCutsSpec)) tapeCutsUptoCard

/-- THE SECOND FORM's CARD OF 'gavelhouselaw2.PurseKeeps'. -/
def purseKeepsUptoCard : Claim7 := { stood := { row := purseKeepsUptoRow, standIns := [], harness := (true, "c1765ac2b715e316095bfe7e8c83f0bd73165ead993b983d3336e78097702fbb"), looks := true }, kinds := [], alts := [], laidByText := true, laidKinds := [.sentinel, .sentinel, .sentinel, .sentinel, .sentinel], laidTests := true, laidLooks := .later }
def PurseKeepsUptoCardSaid : Prop := Claim7.holds Tryd.pinned (.plain (OpenSpec.upto purseKeepsSpec)) purseKeepsUptoCard

/-- THE SECOND FORM's CARD OF 'gavelhouselaw1.TapeActs'. -/
def tapeActsUptoCard : Claim7 := { stood := { row := tapeActsUptoRow, standIns := [], harness := (true, "c1765ac2b715e316095bfe7e8c83f0bd73165ead993b983d3336e78097702fbb"), looks := true }, kinds := [], alts := [], laidByText := true, laidKinds := [.handle, .sentinel, .sentinel, .sentinel, .sentinel, .sentinel, .sentinel, .sentinel, .sentinel, .sentinel, .sentinel, .sentinel, .sentinel], laidTests := true, laidLooks := .later }
def TapeActsUptoCardSaid : Prop := Claim7.holds Tryd.pinned (.plain (OpenSpec.upto tapeActsSpec)) tapeActsUptoCard

/-- THE SECOND FORM's CARD OF 'gavelhouselaw2.PursePays'. -/
def pursePaysUptoCard : Claim7 := { stood := { row := pursePaysUptoRow, standIns := [], harness := (true, "c1765ac2b715e316095bfe7e8c83f0bd73165ead993b983d3336e78097702fbb"), looks := true }, kinds := [], alts := [], laidByText := true, laidKinds := [.handle, .sentinel, .sentinel, .sentinel, .sentinel, .sentinel, .sentinel, .sentinel, .sentinel, .sentinel, .sentinel, .sentinel, .sentinel], laidTests := true, laidLooks := .later }
def PursePaysUptoCardSaid : Prop := Claim7.holds Tryd.pinned (.plain (OpenSpec.upto pursePaysSpec)) pursePaysUptoCard

/-- THE SECOND FORM's CARD OF 'gavelhouselaw2.BookKeeps'. -/
def bookKeepsUptoCard : Claim7 := { stood := { row := bookKeepsUptoRow, standIns := [], harness := (true, "c1765ac2b715e316095bfe7e8c83f0bd73165ead993b983d3336e78097702fbb"), looks := true }, kinds := [], alts := [], laidByText := true, laidKinds := [.sentinel, .sentinel, .sentinel, .sentinel], laidTests := true, laidLooks := .later }
def BookKeepsUptoCardSaid : Prop := Claim7.holds Tryd.pinned (.plain (OpenSpec.upto bookKeepsSpec)) bookKeepsUptoCard

/-- THE SECOND FORM's CARD OF 'gavelhouselaw2.BookActs'. -/
def bookActsUptoCard : Claim7 := { stood := { row := bookActsUptoRow, standIns := [], harness := (true, "c1765ac2b715e316095bfe7e8c83f0bd73165ead993b983d3336e78097702fbb"), looks := true }, kinds := [], alts := [], laidByText := true, laidKinds := [.handle, .sentinel, .sentinel, .sentinel, .sentinel, .sentinel, .sentinel, .sentinel, .sentinel, .sentinel, .sentinel, .sentinel, .sentinel], laidTests := true, laidLooks := .later }
def BookActsUptoCardSaid : Prop := Claim7.holds Tryd.pinned (.plain (OpenSpec.upto bookActsSpec)) bookActsUptoCard
end Rows
end Go.Proofs.YtfeeibealokhfaaDoor
