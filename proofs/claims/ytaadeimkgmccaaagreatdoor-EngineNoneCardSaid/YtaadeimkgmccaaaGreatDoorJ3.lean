/- EngineNone's disks of 12 to 15 bytes. -/
import Derived.Test.YtaadeimkgmccaaaGreatDoorRun
namespace Go.Proofs.YtaadeimkgmccaaaGreatDoor
noncomputable section
open Go Go.Abs
set_option maxRecDepth 100000
set_option maxHeartbeats 0
theorem j12 (p : OpV) (most : Int) (x y : AV) : isJ (runF E 1000000 cJ ⟨(sJ p most x y 12).1, [], none⟩ (sJ p most x y 12).2) = true := by kernel_rfl
theorem j13 (p : OpV) (most : Int) (x y : AV) : isJ (runF E 1000000 cJ ⟨(sJ p most x y 13).1, [], none⟩ (sJ p most x y 13).2) = true := by kernel_rfl
theorem j14 (p : OpV) (most : Int) (x y : AV) : isJ (runF E 1000000 cJ ⟨(sJ p most x y 14).1, [], none⟩ (sJ p most x y 14).2) = true := by kernel_rfl
theorem j15 (p : OpV) (most : Int) (x y : AV) : isJ (runF E 1000000 cJ ⟨(sJ p most x y 15).1, [], none⟩ (sJ p most x y 15).2) = true := by kernel_rfl
end
end Go.Proofs.YtaadeimkgmccaaaGreatDoor
