/- A part of awake. -/
import Derived.Test.YtehffjjfomapnaaGreatDoorAwS
namespace Go.Proofs.YtehffjjfomapnaaGreatDoor
noncomputable section
open Go Go.Abs
set_option maxRecDepth 100000
set_option maxHeartbeats 0
theorem grp9 : rnds E 1000000 aw4 5 fr11 hp11 = some (.nrm,⟨fr16,[],none⟩,hp16) := by kernel_rfl
end
end Go.Proofs.YtehffjjfomapnaaGreatDoor
