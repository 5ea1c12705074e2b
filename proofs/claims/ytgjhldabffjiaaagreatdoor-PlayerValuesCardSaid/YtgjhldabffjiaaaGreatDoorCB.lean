/- Contracts: strings.Split at <, strings.Contains of a blank. -/
import Derived.Test.YtgjhldabffjiaaaGreatDoorCA
namespace Go.Proofs.YtgjhldabffjiaaaGreatDoor
open Go Go.Abs
set_option maxRecDepth 100000
set_option maxHeartbeats 0
noncomputable section
end
end Go.Proofs.YtgjhldabffjiaaaGreatDoor
