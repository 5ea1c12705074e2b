/- The last part of awake: thirty operations that are refused. -/
import Derived.Test.YtenpedmcbmlmkaaGreatDoorAwS
namespace Go.Proofs.YtenpedmcbmlmkaaGreatDoor
noncomputable section
open Go Go.Abs
set_option maxRecDepth 100000
set_option maxHeartbeats 0
def isT5 : Res → Bool
  | some (.ret, ⟨tm, [], none⟩, _) => match getL tm 0 with
    | .d (.b true) => true
    | _ => false
  | _ => false
theorem part8 : isT5 (runF E 1000000 aw5 ⟨fr7, [], none⟩ hp7) = true := by kernel_rfl
end
end Go.Proofs.YtenpedmcbmlmkaaGreatDoor
