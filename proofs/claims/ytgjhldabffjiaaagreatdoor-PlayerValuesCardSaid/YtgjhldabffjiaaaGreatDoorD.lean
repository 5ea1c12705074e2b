/- Contracts: frag.Right. -/
import Derived.Test.YtgjhldabffjiaaaGreatDoorB
import Derived.Test.YtgjhldabffjiaaaGreatDoorC
namespace Go.Proofs.YtgjhldabffjiaaaGreatDoor
noncomputable section
open Go Go.Abs
set_option maxRecDepth 100000
end
end Go.Proofs.YtgjhldabffjiaaaGreatDoor
