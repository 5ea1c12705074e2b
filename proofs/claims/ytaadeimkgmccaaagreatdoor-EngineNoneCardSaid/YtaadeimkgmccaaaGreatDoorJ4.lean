/- EngineNone's disks of 16 to 19 bytes. -/
import Derived.Test.YtaadeimkgmccaaaGreatDoorRun
namespace Go.Proofs.YtaadeimkgmccaaaGreatDoor
noncomputable section
open Go Go.Abs
set_option maxRecDepth 100000
set_option maxHeartbeats 0
theorem j16 (p : OpV) (most : Int) (x y : AV) : isJ (runF E 1000000 cJ ⟨(sJ p most x y 16).1, [], none⟩ (sJ p most x y 16).2) = true := by kernel_rfl
theorem j17 (p : OpV) (most : Int) (x y : AV) : isJ (runF E 1000000 cJ ⟨(sJ p most x y 17).1, [], none⟩ (sJ p most x y 17).2) = true := by kernel_rfl
theorem j18 (p : OpV) (most : Int) (x y : AV) : isJ (runF E 1000000 cJ ⟨(sJ p most x y 18).1, [], none⟩ (sJ p most x y 18).2) = true := by kernel_rfl
theorem j19 (p : OpV) (most : Int) (x y : AV) : isJ (runF E 1000000 cJ ⟨(sJ p most x y 19).1, [], none⟩ (sJ p most x y 19).2) = true := by kernel_rfl
end
end Go.Proofs.YtaadeimkgmccaaaGreatDoor
