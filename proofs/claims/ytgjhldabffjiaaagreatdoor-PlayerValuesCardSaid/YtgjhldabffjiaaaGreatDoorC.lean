/- Contracts: slices.IndexFunc, slices.ContainsFunc, upon data. -/
import Derived.Test.YtgjhldabffjiaaaGreatDoorNm
import Derived.Test.YtgjhldabffjiaaaGreatDoorZE
namespace Go.Proofs.YtgjhldabffjiaaaGreatDoor
noncomputable section
open Go Go.Abs
set_option maxRecDepth 100000
end
end Go.Proofs.YtgjhldabffjiaaaGreatDoor
