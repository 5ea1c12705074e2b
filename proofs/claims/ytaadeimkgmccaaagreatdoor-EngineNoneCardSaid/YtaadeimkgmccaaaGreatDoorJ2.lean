/- EngineNone's disks of 8 to 11 bytes. -/
import Derived.Test.YtaadeimkgmccaaaGreatDoorRun
namespace Go.Proofs.YtaadeimkgmccaaaGreatDoor
noncomputable section
open Go Go.Abs
set_option maxRecDepth 100000
set_option maxHeartbeats 0
theorem j8 (p : OpV) (most : Int) (x y : AV) : isJ (runF E 1000000 cJ ⟨(sJ p most x y 8).1, [], none⟩ (sJ p most x y 8).2) = true := by kernel_rfl
theorem j9 (p : OpV) (most : Int) (x y : AV) : isJ (runF E 1000000 cJ ⟨(sJ p most x y 9).1, [], none⟩ (sJ p most x y 9).2) = true := by kernel_rfl
theorem j10 (p : OpV) (most : Int) (x y : AV) : isJ (runF E 1000000 cJ ⟨(sJ p most x y 10).1, [], none⟩ (sJ p most x y 10).2) = true := by kernel_rfl
theorem j11 (p : OpV) (most : Int) (x y : AV) : isJ (runF E 1000000 cJ ⟨(sJ p most x y 11).1, [], none⟩ (sJ p most x y 11).2) = true := by kernel_rfl
end
end Go.Proofs.YtaadeimkgmccaaaGreatDoor
