/- EngineNone's disks of 20 to 23 bytes. -/
import Derived.Test.YtaadeimkgmccaaaGreatDoorRun
namespace Go.Proofs.YtaadeimkgmccaaaGreatDoor
noncomputable section
open Go Go.Abs
set_option maxRecDepth 100000
set_option maxHeartbeats 0
theorem j20 (p : OpV) (most : Int) (x y : AV) : isJ (runF E 1000000 cJ ⟨(sJ p most x y 20).1, [], none⟩ (sJ p most x y 20).2) = true := by kernel_rfl
theorem j21 (p : OpV) (most : Int) (x y : AV) : isJ (runF E 1000000 cJ ⟨(sJ p most x y 21).1, [], none⟩ (sJ p most x y 21).2) = true := by kernel_rfl
theorem j22 (p : OpV) (most : Int) (x y : AV) : isJ (runF E 1000000 cJ ⟨(sJ p most x y 22).1, [], none⟩ (sJ p most x y 22).2) = true := by kernel_rfl
theorem j23 (p : OpV) (most : Int) (x y : AV) : isJ (runF E 1000000 cJ ⟨(sJ p most x y 23).1, [], none⟩ (sJ p most x y 23).2) = true := by kernel_rfl
end
end Go.Proofs.YtaadeimkgmccaaaGreatDoor
