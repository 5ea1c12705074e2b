/- A part of awake. -/
import Derived.Test.YtgjhldabffjiaaaGreatDoorAwS
namespace Go.Proofs.YtgjhldabffjiaaaGreatDoor
noncomputable section
open Go Go.Abs
set_option maxRecDepth 100000
set_option maxHeartbeats 0
theorem Vg:Ef (mz E 1000000 aw0 ⟨enterT 38 [],[],none⟩ Heap.empty) 0 fr0 hp0=true:=by kernel_rfl
theorem Vh:Ef (mz E 1000000 aw1 ⟨fr0,[],none⟩ hp0) 0 fr1 hp1=true:=by kernel_rfl
theorem Vi:Ef (mz E 1000000 aw2 ⟨fr1,[],none⟩ hp1) 0 fr2 hp2=true:=by kernel_rfl
theorem Vj:Ef (mz E 1000000 aw3 ⟨fr2,[],none⟩ hp2) 0 fr3 hp3=true:=by kernel_rfl
theorem abv:Ef (BQ E 1000000 aw4 1 fr7 hp7) 0 fr8 hp8=true:=by kernel_rfl
end
end Go.Proofs.YtgjhldabffjiaaaGreatDoor
