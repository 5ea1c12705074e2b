/- A part of awake. -/
import Derived.Test.YtgjhldabffjiaaaGreatDoorAwS
namespace Go.Proofs.YtgjhldabffjiaaaGreatDoor
noncomputable section
open Go Go.Abs
set_option maxRecDepth 100000
set_option maxHeartbeats 0
theorem abt:Ef (BQ E 1000000 aw4 1 fr3 hp3) 0 fr4 hp4=true:=by kernel_rfl
end
end Go.Proofs.YtgjhldabffjiaaaGreatDoor
