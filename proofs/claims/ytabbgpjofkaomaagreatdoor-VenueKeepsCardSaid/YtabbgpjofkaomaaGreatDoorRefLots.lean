import Derived.Test.YtabbgpjofkaomaaGreatDoorJ12
/- What the document's LotsFault, DemandOf, SupplyOf, VolumeOf and BestOf compute. -/
set_option linter.unusedSimpArgs false
set_option linter.unusedVariables false
namespace Go.Proofs.YtabbgpjofkaomaaGreatDoor
open Go.RowKit
end Go.Proofs.YtabbgpjofkaomaaGreatDoor
