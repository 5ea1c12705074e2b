/- EngineNone's disks of 28 to 29 bytes. -/
import Derived.Test.YtaadeimkgmccaaaGreatDoorRun
namespace Go.Proofs.YtaadeimkgmccaaaGreatDoor
noncomputable section
open Go Go.Abs
set_option maxRecDepth 100000
set_option maxHeartbeats 0
theorem j28 (p : OpV) (most : Int) (x y : AV) : isJ (runF E 1000000 cJ ⟨(sJ p most x y 28).1, [], none⟩ (sJ p most x y 28).2) = true := by kernel_rfl
theorem j29 (p : OpV) (most : Int) (x y : AV) : isJ (runF E 1000000 cJ ⟨(sJ p most x y 29).1, [], none⟩ (sJ p most x y 29).2) = true := by kernel_rfl
end
end Go.Proofs.YtaadeimkgmccaaaGreatDoor
