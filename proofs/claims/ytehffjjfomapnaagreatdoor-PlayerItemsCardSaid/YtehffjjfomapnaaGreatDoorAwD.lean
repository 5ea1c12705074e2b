/- A part of awake. -/
import Derived.Test.YtehffjjfomapnaaGreatDoorAwS
namespace Go.Proofs.YtehffjjfomapnaaGreatDoor
noncomputable section
open Go Go.Abs
set_option maxRecDepth 100000
set_option maxHeartbeats 0
theorem grp7 : rnds E 1000000 aw4 2 fr9 hp9 = some (.nrm,⟨fr11,[],none⟩,hp11) := by kernel_rfl
end
end Go.Proofs.YtehffjjfomapnaaGreatDoor
