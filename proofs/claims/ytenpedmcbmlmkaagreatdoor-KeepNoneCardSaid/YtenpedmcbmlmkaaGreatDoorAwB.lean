/- The second part of awake: the first operation. -/
import Derived.Test.YtenpedmcbmlmkaaGreatDoorAwS
namespace Go.Proofs.YtenpedmcbmlmkaaGreatDoor
noncomputable section
open Go Go.Abs
set_option maxRecDepth 100000
set_option maxHeartbeats 0
theorem part4 : chkR (runF E 1000000 aw4 ⟨fr3, [], none⟩ hp3) 0 fr4 hp4 = true := by kernel_rfl
end
end Go.Proofs.YtenpedmcbmlmkaaGreatDoor
