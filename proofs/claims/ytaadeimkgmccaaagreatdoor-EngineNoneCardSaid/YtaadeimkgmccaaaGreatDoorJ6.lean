/- EngineNone's disks of 24 to 27 bytes. -/
import Derived.Test.YtaadeimkgmccaaaGreatDoorRun
namespace Go.Proofs.YtaadeimkgmccaaaGreatDoor
noncomputable section
open Go Go.Abs
set_option maxRecDepth 100000
set_option maxHeartbeats 0
theorem j24 (p : OpV) (most : Int) (x y : AV) : isJ (runF E 1000000 cJ ⟨(sJ p most x y 24).1, [], none⟩ (sJ p most x y 24).2) = true := by kernel_rfl
theorem j25 (p : OpV) (most : Int) (x y : AV) : isJ (runF E 1000000 cJ ⟨(sJ p most x y 25).1, [], none⟩ (sJ p most x y 25).2) = true := by kernel_rfl
theorem j26 (p : OpV) (most : Int) (x y : AV) : isJ (runF E 1000000 cJ ⟨(sJ p most x y 26).1, [], none⟩ (sJ p most x y 26).2) = true := by kernel_rfl
theorem j27 (p : OpV) (most : Int) (x y : AV) : isJ (runF E 1000000 cJ ⟨(sJ p most x y 27).1, [], none⟩ (sJ p most x y 27).2) = true := by kernel_rfl
end
end Go.Proofs.YtaadeimkgmccaaaGreatDoor
