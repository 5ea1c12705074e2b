/- A part of awake. -/
import Derived.Test.YtgjhldabffjiaaaGreatDoorAwS
namespace Go.Proofs.YtgjhldabffjiaaaGreatDoor
noncomputable section
open Go Go.Abs
set_option maxRecDepth 100000
set_option maxHeartbeats 0
theorem abw:BQ E 1000000 aw4 2 fr9 hp9=some (.nrm,⟨Tc,[],none⟩,Td):=by kernel_rfl
end
end Go.Proofs.YtgjhldabffjiaaaGreatDoor
