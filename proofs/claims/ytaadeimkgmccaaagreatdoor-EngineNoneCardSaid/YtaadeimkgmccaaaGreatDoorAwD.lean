/- The last part of awake. -/
import Derived.Test.YtaadeimkgmccaaaGreatDoorAwS
namespace Go.Proofs.YtaadeimkgmccaaaGreatDoor
noncomputable section
open Go Go.Abs
set_option maxRecDepth 100000
set_option maxHeartbeats 0
def isT5 : Res → Bool
  | some (.ret, ⟨tm, [], none⟩, _) => match getL tm 0 with
    | .d (.b true) => true
    | _ => false
  | _ => false
theorem part4 : isT5 (runF E 1000000 aw4 ⟨fr3, [], none⟩ hp3) = true := by kernel_rfl
end
end Go.Proofs.YtaadeimkgmccaaaGreatDoor
