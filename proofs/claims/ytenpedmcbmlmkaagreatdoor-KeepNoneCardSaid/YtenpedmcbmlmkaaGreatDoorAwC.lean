/- The third part of awake: the second operation. -/
import Derived.Test.YtenpedmcbmlmkaaGreatDoorAwS
namespace Go.Proofs.YtenpedmcbmlmkaaGreatDoor
noncomputable section
open Go Go.Abs
set_option maxRecDepth 100000
set_option maxHeartbeats 0
theorem part5 : chkR (runF E 1000000 aw4 ⟨fr4, [], none⟩ hp4) 0 fr5 hp5 = true := by kernel_rfl
end
end Go.Proofs.YtenpedmcbmlmkaaGreatDoor
