/- The first part of awake: the engine is made. -/
import Derived.Test.YtaadeimkgmccaaaGreatDoorAwS
namespace Go.Proofs.YtaadeimkgmccaaaGreatDoor
noncomputable section
open Go Go.Abs
set_option maxRecDepth 100000
set_option maxHeartbeats 0
theorem part0 : chkR (runF E 1000000 aw0 ⟨enterT 108 [], [], none⟩ Heap.empty) 0 fr0 hp0 = true := by kernel_rfl
theorem part1 : chkR (runF E 1000000 aw1 ⟨fr0, [], none⟩ hp0) 0 fr1 hp1 = true := by kernel_rfl
end
end Go.Proofs.YtaadeimkgmccaaaGreatDoor
