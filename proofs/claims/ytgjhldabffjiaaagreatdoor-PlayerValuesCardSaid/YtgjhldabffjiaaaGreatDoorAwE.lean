/- A part of awake. -/
import Derived.Test.YtgjhldabffjiaaaGreatDoorAwS
namespace Go.Proofs.YtgjhldabffjiaaaGreatDoor
noncomputable section
open Go Go.Abs
set_option maxRecDepth 100000
set_option maxHeartbeats 0
theorem abx:BQ E 1000000 aw4 5 Tc Td=some (.nrm,⟨Te,[],none⟩,Tf):=by kernel_rfl
end
end Go.Proofs.YtgjhldabffjiaaaGreatDoor
