/- EngineNone's disks of 4 to 7 bytes. -/
import Derived.Test.YtaadeimkgmccaaaGreatDoorRun
namespace Go.Proofs.YtaadeimkgmccaaaGreatDoor
noncomputable section
open Go Go.Abs
set_option maxRecDepth 100000
set_option maxHeartbeats 0
theorem j4 (p : OpV) (most : Int) (x y : AV) : isJ (runF E 1000000 cJ ⟨(sJ p most x y 4).1, [], none⟩ (sJ p most x y 4).2) = true := by kernel_rfl
theorem j5 (p : OpV) (most : Int) (x y : AV) : isJ (runF E 1000000 cJ ⟨(sJ p most x y 5).1, [], none⟩ (sJ p most x y 5).2) = true := by kernel_rfl
theorem j6 (p : OpV) (most : Int) (x y : AV) : isJ (runF E 1000000 cJ ⟨(sJ p most x y 6).1, [], none⟩ (sJ p most x y 6).2) = true := by kernel_rfl
theorem j7 (p : OpV) (most : Int) (x y : AV) : isJ (runF E 1000000 cJ ⟨(sJ p most x y 7).1, [], none⟩ (sJ p most x y 7).2) = true := by kernel_rfl
end
end Go.Proofs.YtaadeimkgmccaaaGreatDoor
