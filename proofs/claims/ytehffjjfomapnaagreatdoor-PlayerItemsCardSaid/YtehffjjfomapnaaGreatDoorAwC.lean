/- A part of awake. -/
import Derived.Test.YtehffjjfomapnaaGreatDoorAwS
namespace Go.Proofs.YtehffjjfomapnaaGreatDoor
noncomputable section
open Go Go.Abs
set_option maxRecDepth 100000
set_option maxHeartbeats 0
theorem grp2 : chkR (rnds E 1000000 aw4 3 fr4 hp4) 0 fr7 hp7 = true := by kernel_rfl
end
end Go.Proofs.YtehffjjfomapnaaGreatDoor
