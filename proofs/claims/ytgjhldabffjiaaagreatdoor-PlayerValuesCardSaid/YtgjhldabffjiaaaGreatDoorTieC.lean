/- The program's tie. -/
import Derived.Test.YtgjhldabffjiaaaGreatDoorTieA
namespace Go.Proofs.YtgjhldabffjiaaaGreatDoor
noncomputable section
open Go
set_option maxRecDepth 100000
theorem ace:∀os tape,varsDone Tryz.prog 400 (varsId Tryz.prog) os tape=true:=fun _ _=> by kernel_rfl
theorem acf:∀os tape,(DataW.laidRun Tryz.prog (varsWorld Tryz.prog 400 (varsId Tryz.prog) os tape).memory 8 (tl.map (·.1))).map (·.1)=some tl:=fun _ _=> by kernel_rfl
theorem acg:∀os tape,(DataW.laidRun Tryz.prog (varsWorld Tryz.prog 400 (varsId Tryz.prog) os tape).memory 8 (tl.map (·.1))).map (fun x=> decide x.2.Nodup && laidRowsB Tryz.prog (varsWorld Tryz.prog 400 (varsId Tryz.prog) os tape).memory x.2)=some true:=fun _ _=> by kernel_rfl
end
end Go.Proofs.YtgjhldabffjiaaaGreatDoor
