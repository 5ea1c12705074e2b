/- The second part of awake: two operations. -/
import Derived.Test.YtaadeimkgmccaaaGreatDoorAwS
namespace Go.Proofs.YtaadeimkgmccaaaGreatDoor
noncomputable section
open Go Go.Abs
set_option maxRecDepth 100000
set_option maxHeartbeats 0
theorem part2 : chkR (runF E 1000000 aw2 ⟨fr1, [], none⟩ hp1) 0 fr2 hp2 = true := by kernel_rfl
end
end Go.Proofs.YtaadeimkgmccaaaGreatDoor
