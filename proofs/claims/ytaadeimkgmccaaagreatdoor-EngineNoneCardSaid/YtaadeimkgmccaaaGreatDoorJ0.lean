/- EngineNone's disks of 0 to 3 bytes. -/
import Derived.Test.YtaadeimkgmccaaaGreatDoorRun
namespace Go.Proofs.YtaadeimkgmccaaaGreatDoor
noncomputable section
open Go Go.Abs
set_option maxRecDepth 100000
set_option maxHeartbeats 0
theorem j0 (p : OpV) (most : Int) (x y : AV) : isJ (runF E 1000000 cJ ⟨(sJ p most x y 0).1, [], none⟩ (sJ p most x y 0).2) = true := by kernel_rfl
theorem j1 (p : OpV) (most : Int) (x y : AV) : isJ (runF E 1000000 cJ ⟨(sJ p most x y 1).1, [], none⟩ (sJ p most x y 1).2) = true := by kernel_rfl
theorem j2 (p : OpV) (most : Int) (x y : AV) : isJ (runF E 1000000 cJ ⟨(sJ p most x y 2).1, [], none⟩ (sJ p most x y 2).2) = true := by kernel_rfl
theorem j3 (p : OpV) (most : Int) (x y : AV) : isJ (runF E 1000000 cJ ⟨(sJ p most x y 3).1, [], none⟩ (sJ p most x y 3).2) = true := by kernel_rfl
end
end Go.Proofs.YtaadeimkgmccaaaGreatDoor
