/- The program's tie. -/
import Derived.Test.YtehffjjfomapnaaGreatDoorTieA
namespace Go.Proofs.YtehffjjfomapnaaGreatDoor
noncomputable section
open Go
set_option maxRecDepth 100000
theorem tie6 : varsNamedLaterB Tryz.prog (varsId Tryz.prog) tl = true := by kernel_rfl
end
end Go.Proofs.YtehffjjfomapnaaGreatDoor
