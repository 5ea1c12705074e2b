/- The program's tie. -/
import Derived.Test.YtfbjkckdmigaoaaGreatDoorTieA
namespace Go.Proofs.YtfbjkckdmigaoaaGreatDoor
open Go
set_option maxRecDepth 100000
theorem tie6 : varsNamedLaterB Tryz.prog (varsId Tryz.prog) tl = true := by kernel_rfl
end Go.Proofs.YtfbjkckdmigaoaaGreatDoor
