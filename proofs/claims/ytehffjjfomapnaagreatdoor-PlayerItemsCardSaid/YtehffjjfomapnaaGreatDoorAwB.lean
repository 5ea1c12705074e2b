/- A part of awake. -/
import Derived.Test.YtehffjjfomapnaaGreatDoorAwS
namespace Go.Proofs.YtehffjjfomapnaaGreatDoor
noncomputable section
open Go Go.Abs
set_option maxRecDepth 100000
set_option maxHeartbeats 0
theorem grp1 : chkR (rnds E 1000000 aw4 1 fr3 hp3) 0 fr4 hp4 = true := by kernel_rfl
end
end Go.Proofs.YtehffjjfomapnaaGreatDoor
