/-
  DERIVED. GIVEN WITH THE SEED: THE CARDS: each row of YtmbboflakfokhaaDoorRows.lean that lists a variable, with what it lists TIED to the program's text (the seventh form; the later family's looks); each row that meets fmt, with fmt's text TOLD by the authors' own Lean function (tested against real Go, not proved from fmt's source: count such statements apart). THE CARD IS WHAT COUNTS. Prove the row's statement (the work); the ties are given (YtmbboflakfokhaaDoorTie.lean); close each card by the builder's one call (the guide's Derived/Test/ToyasCard.lean, 'card_holds'). Laid BY PROGRAM, IN A SANDBOX (cutbox-door.mjs). By AI agents, Wed Nov 11 2026. No macro, syntax, notation, axiom, sorry.
-/
import Derived.Test.YtmbboflakfokhaaDoorRows
import GoSem.ClaimSeven
namespace Go.Proofs.YtmbboflakfokhaaDoor
namespace Rows

/-- THE TIED CARD OF 'gavelhouselaw2.BatchFair'. -/
def batchFairCard : Claim7 := { stood := { row := batchFairRow, standIns := [], harness := (true, "519ae52acb9ed4b774df9016f55a62ac44400c5b5839651330901e0b210822ce"), looks := false }, kinds := [], alts := [], laidByText := true, laidKinds := [.sentinel, .sentinel, .sentinel, .sentinel, .sentinel, .sentinel, .sentinel, .sentinel], laidTests := true, laidLooks := .later }
def BatchFairCardSaid : Prop := Claim7.holds Tryd.pinned (.plain (OpenSpec.ofChange batchFairSpec)) batchFairCard

/-- THE TIED CARD OF 'gavelhouselaw2.BatchStill'. -/
def batchStillCard : Claim7 := { stood := { row := batchStillRow, standIns := [], harness := (true, "519ae52acb9ed4b774df9016f55a62ac44400c5b5839651330901e0b210822ce"), looks := false }, kinds := [], alts := [], laidByText := true, laidKinds := [.sentinel, .sentinel, .sentinel, .sentinel, .sentinel, .sentinel, .sentinel, .sentinel], laidTests := true, laidLooks := .later }
def BatchStillCardSaid : Prop := Claim7.holds Tryd.pinned (.plain (OpenSpec.ofChange batchStillSpec)) batchStillCard

/-- THE TIED CARD OF 'gavelhouselaw2.BatchAgain'. -/
def batchAgainCard : Claim7 := { stood := { row := batchAgainRow, standIns := [], harness := (true, "519ae52acb9ed4b774df9016f55a62ac44400c5b5839651330901e0b210822ce"), looks := false }, kinds := [], alts := [], laidByText := true, laidKinds := [.sentinel, .sentinel, .sentinel, .sentinel, .sentinel, .sentinel, .sentinel, .sentinel], laidTests := true, laidLooks := .later }
def BatchAgainCardSaid : Prop := Claim7.holds Tryd.pinned (.plain (OpenSpec.ofChange batchAgainSpec)) batchAgainCard

/-- THE TIED CARD OF 'gavelhouselaw2.BatchHolds'. -/
def batchHoldsCard : Claim7 := { stood := { row := batchHoldsRow, standIns := [], harness := (true, "519ae52acb9ed4b774df9016f55a62ac44400c5b5839651330901e0b210822ce"), looks := false }, kinds := [], alts := [], laidByText := true, laidKinds := [.sentinel, .sentinel, .sentinel, .sentinel, .sentinel, .sentinel, .sentinel, .sentinel], laidTests := true, laidLooks := .later }
def BatchHoldsCardSaid : Prop := Claim7.holds Tryd.pinned (.plain (OpenSpec.ofChange batchHoldsSpec)) batchHoldsCard

/-- THE SECOND FORM's CARD OF 'gavelhouselaw2.BatchFair'. -/
def batchFairUptoCard : Claim7 := { stood := { row := batchFairUptoRow, standIns := [], harness := (true, "519ae52acb9ed4b774df9016f55a62ac44400c5b5839651330901e0b210822ce"), looks := false }, kinds := [], alts := [], laidByText := true, laidKinds := [.sentinel, .sentinel, .sentinel, .sentinel, .sentinel, .sentinel, .sentinel, .sentinel], laidTests := true, laidLooks := .later }
def BatchFairUptoCardSaid : Prop := Claim7.holds Tryd.pinned (.plain (OpenSpec.upto batchFairSpec)) batchFairUptoCard

/-- THE SECOND FORM's CARD OF 'gavelhouselaw2.BatchStill'. -/
def batchStillUptoCard : Claim7 := { stood := { row := batchStillUptoRow, standIns := [], harness := (true, "519ae52acb9ed4b774df9016f55a62ac44400c5b5839651330901e0b210822ce"), looks := false }, kinds := [], alts := [], laidByText := true, laidKinds := [.sentinel, .sentinel, .sentinel, .sentinel, .sentinel, .sentinel, .sentinel, .sentinel], laidTests := true, laidLooks := .later }
def BatchStillUptoCardSaid : Prop := Claim7.holds Tryd.pinned (.plain (OpenSpec.upto batchStillSpec)) batchStillUptoCard

/-- THE SECOND FORM's CARD OF 'gavelhouselaw2.BatchAgain'. -/
def batchAgainUptoCard : Claim7 := { stood := { row := batchAgainUptoRow, standIns := [], harness := (true, "519ae52acb9ed4b774df9016f55a62ac44400c5b5839651330901e0b210822ce"), looks := false }, kinds := [], alts := [], laidByText := true, laidKinds := [.sentinel, .sentinel, .sentinel, .sentinel, .sentinel, .sentinel, .sentinel, .sentinel], laidTests := true, laidLooks := .later }
def BatchAgainUptoCardSaid : Prop := Claim7.holds Tryd.pinned (.plain (OpenSpec.upto batchAgainSpec)) batchAgainUptoCard

/-- THE SECOND FORM's CARD OF 'gavelhouselaw2.BatchHolds'. -/
def batchHoldsUptoCard : Claim7 := { stood := { row := batchHoldsUptoRow, standIns := [], harness := (true, "519ae52acb9ed4b774df9016f55a62ac44400c5b5839651330901e0b210822ce"), looks := false }, kinds := [], alts := [], laidByText := true, laidKinds := [.sentinel, .sentinel, .sentinel, .sentinel, .sentinel, .sentinel, .sentinel, .sentinel], laidTests := true, laidLooks := .later }
def BatchHoldsUptoCardSaid : Prop := Claim7.holds Tryd.pinned (.plain (OpenSpec.upto batchHoldsSpec)) batchHoldsUptoCard
end Rows
end Go.Proofs.YtmbboflakfokhaaDoor
