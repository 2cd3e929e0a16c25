import Derived.Test.YtabbgpjofkaomaaGreatDoorJ45
set_option linter.unusedSimpArgs false
set_option linter.unusedVariables false
/- VenueKeeps: what the statement's code answers. -/
namespace Go.Proofs.YtabbgpjofkaomaaGreatDoor
open Go.RowKit
section
variable {E:Nat→Addr} {w0 w:World} {vb dp:Nat} {fa:FlA} {v:VSt}
end
end Go.Proofs.YtabbgpjofkaomaaGreatDoor
