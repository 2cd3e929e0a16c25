import Derived.Test.YtabbgpjofkaomaaGreatDoorJ12
set_option linter.unusedSimpArgs false
set_option linter.unusedVariables false
/- What the document's LotsFault, DemandOf, SupplyOf, VolumeOf and BestOf compute. -/
namespace Go.Proofs.YtabbgpjofkaomaaGreatDoor
open Go.RowKit
end Go.Proofs.YtabbgpjofkaomaaGreatDoor
