/- The fourth part of awake: the third operation. -/
import Derived.Test.YtenpedmcbmlmkaaGreatDoorAwS
namespace Go.Proofs.YtenpedmcbmlmkaaGreatDoor
noncomputable section
open Go Go.Abs
set_option maxRecDepth 100000
set_option maxHeartbeats 0
theorem part6 : chkR (runF E 1000000 aw4 ⟨fr5, [], none⟩ hp5) 0 fr6 hp6 = true := by kernel_rfl
theorem part7 : chkR (runF E 1000000 aw4 ⟨fr6, [], none⟩ hp6) 2 fr7 hp7 = true := by kernel_rfl
end
end Go.Proofs.YtenpedmcbmlmkaaGreatDoor
