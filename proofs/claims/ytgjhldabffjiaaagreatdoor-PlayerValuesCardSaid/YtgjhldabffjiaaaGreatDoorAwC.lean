/- A part of awake. -/
import Derived.Test.YtgjhldabffjiaaaGreatDoorAwS
namespace Go.Proofs.YtgjhldabffjiaaaGreatDoor
noncomputable section
open Go Go.Abs
set_option maxRecDepth 100000
set_option maxHeartbeats 0
theorem abu:Ef (BQ E 1000000 aw4 3 fr4 hp4) 0 fr7 hp7=true:=by kernel_rfl
end
end Go.Proofs.YtgjhldabffjiaaaGreatDoor
