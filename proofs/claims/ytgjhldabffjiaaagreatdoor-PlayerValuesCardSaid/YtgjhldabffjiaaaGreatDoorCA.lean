/- What an item is said as, and what a text says: the plain law. -/
import Derived.Test.YtgjhldabffjiaaaGreatDoorD
import Derived.Test.YtgjhldabffjiaaaGreatDoorBB
namespace Go.Proofs.YtgjhldabffjiaaaGreatDoor
open Go Go.Abs
set_option maxRecDepth 100000
noncomputable section
structure adG (x:Vr):Prop where
 n:isName x.name=true
 l:x.after.length≤20
 q0:0≤x.Sn
 q1:x.Sn≤400
 a:∀s∈x.after,isName s=true
 k:(x.kind=0∧x.over=[]∧x.width=0)∨(x.kind=1∧isName x.over=true∧0≤x.width∧x.width≤40)
end
end Go.Proofs.YtgjhldabffjiaaaGreatDoor
