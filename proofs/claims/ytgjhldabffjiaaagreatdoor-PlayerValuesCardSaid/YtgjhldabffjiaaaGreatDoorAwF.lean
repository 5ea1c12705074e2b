/- A part of awake. -/
import Derived.Test.YtgjhldabffjiaaaGreatDoorAwS
namespace Go.Proofs.YtgjhldabffjiaaaGreatDoor
noncomputable section
open Go Go.Abs
set_option maxRecDepth 100000
set_option maxHeartbeats 0
theorem Ta:mz E 1000000 aw4 ⟨Te,[],none⟩ Tf=some (.exit 0,⟨Nk,[],none⟩,Nl):=by kernel_rfl
def Vf:Res→Bool
 |some (.ret,⟨tm,[],none⟩,_)=> match getL tm 0 with
  | .d (.b true)=> true
  |_=> false
 |_=> false
theorem S8:Vf (mz E 1000000 aw5 ⟨Nk,[],none⟩ Nl)=true:=by kernel_rfl
end
end Go.Proofs.YtgjhldabffjiaaaGreatDoor
