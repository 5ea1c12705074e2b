/- The program's tie. -/
import Derived.Test.YtgjhldabffjiaaaGreatDoorTieA
namespace Go.Proofs.YtgjhldabffjiaaaGreatDoor
noncomputable section
open Go
set_option maxRecDepth 100000
theorem acd:varsNamedLaterB Tryz.prog (varsId Tryz.prog) tl=true:=by kernel_rfl
end
end Go.Proofs.YtgjhldabffjiaaaGreatDoor
