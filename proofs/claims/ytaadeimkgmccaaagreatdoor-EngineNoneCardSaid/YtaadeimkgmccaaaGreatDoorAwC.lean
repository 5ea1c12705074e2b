/- The third part of awake: it is opened. -/
import Derived.Test.YtaadeimkgmccaaaGreatDoorAwS
namespace Go.Proofs.YtaadeimkgmccaaaGreatDoor
noncomputable section
open Go Go.Abs
set_option maxRecDepth 100000
set_option maxHeartbeats 0
theorem part3 : runF E 1000000 aw3 ⟨fr2, [], none⟩ hp2 = some (.nrm, ⟨fr3, [], none⟩, hp3) := by kernel_rfl
end
end Go.Proofs.YtaadeimkgmccaaaGreatDoor
