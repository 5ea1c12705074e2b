/- A part of awake. -/
import Derived.Test.YtehffjjfomapnaaGreatDoorAwS
namespace Go.Proofs.YtehffjjfomapnaaGreatDoor
noncomputable section
open Go Go.Abs
set_option maxRecDepth 100000
set_option maxHeartbeats 0
theorem part17 : runF E 1000000 aw4 ⟨fr16,[],none⟩ hp16 = some (.exit 0,⟨fr17,[],none⟩,hp17) := by kernel_rfl
def isT5 : Res → Bool
  | some (.ret,⟨tm,[],none⟩,_) => match getL tm 0 with
    | .d (.b true) => true
    | _ => false
  | _ => false
theorem part18 : isT5 (runF E 1000000 aw5 ⟨fr17,[],none⟩ hp17) = true := by kernel_rfl
end
end Go.Proofs.YtehffjjfomapnaaGreatDoor
