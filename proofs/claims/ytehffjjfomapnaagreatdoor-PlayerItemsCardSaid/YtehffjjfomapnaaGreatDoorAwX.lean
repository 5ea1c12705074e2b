/- The sixth round of awake: it crashes, and is opened. -/
import Derived.Test.YtehffjjfomapnaaGreatDoorAwH
import Derived.Test.YtehffjjfomapnaaGreatDoorAwI
namespace Go.Proofs.YtehffjjfomapnaaGreatDoor
open Go Go.Abs
set_option maxRecDepth 100000
set_option maxHeartbeats 0
noncomputable section
theorem fnL138 : E.fn 138 = some a138 := by kernel_rfl
theorem cl13 : Cal E 138 [(P 1)] he11 (.nrm,(.tup [(P 877),(k 0)]),he22) := by
  refine Cal.wrF fnL138 (.inr rfl) ?_
  refine .call cl14 (by kernel_rfl) ?_
  refine W.brF (by kernel_rfl) ?_
  refine .call cl16 (by kernel_rfl) ?_
  refine W.brF (by kernel_rfl) ?_
  refine .call cl18 (by kernel_rfl) ?_
  refine W.brT (by kernel_rfl) ?_
  refine .call cl20 (by kernel_rfl) ?_
  exact .retR (by kernel_rfl) (by kernel_rfl)
theorem fnL90 : E.fn 90 = some a90 := by kernel_rfl
theorem cl12 : Cal E 90 [(P 1),(k 50000)] he11 (.nrm,(.tup [(P 878),(k 0)]),he24) := by
  refine Cal.wrF fnL90 (.inr rfl) ?_
  refine W.brF (by kernel_rfl) ?_
  refine .call cl13 (by kernel_rfl) ?_
  refine .call cl23 (by kernel_rfl) ?_
  exact .retR (by kernel_rfl) (by kernel_rfl)
theorem fnL57 : E.fn 57 = some a57 := by kernel_rfl
theorem cl9 : Cal E 57 [(P 81),(.agg [(.app 551 0 4 [(j 0),(j 0),(j 0),(j 0)]),we,w0,we,(k 0),w0,(k 0),we,ns,ns,(k 0)])] he9 (.nrm,g11,he30) := by
  refine Cal.wrF fnL57 (.inr rfl) ?_
  refine W.opR (by kernel_rfl) ?_
  refine .call cl10 (by kernel_rfl) ?_
  refine .call cl12 (by kernel_rfl) ?_
  refine W.brF (by kernel_rfl) ?_
  refine .call cl26 (by kernel_rfl) ?_
  refine .call cl28 (by kernel_rfl) ?_
  refine .call cl30 (by kernel_rfl) ?_
  exact .retR (by kernel_rfl) (by kernel_rfl)
theorem fnL12 : E.fn 12 = some a12 := by kernel_rfl
theorem cl0 : Cal E 12 [(P 81),g10] he0 (.nrm,g11,he30) := by
  refine Cal.wrF fnL12 (.inr rfl) ?_
  refine .call cl1 (by kernel_rfl) ?_
  refine W.brF (by kernel_rfl) ?_
  refine .call cl3 (by kernel_rfl) ?_
  refine .call cl5 (by kernel_rfl) ?_
  refine W.opR (by kernel_rfl) ?_
  refine W.brF (by kernel_rfl) ?_
  refine W.opR (by kernel_rfl) ?_
  refine .call cl7 (by kernel_rfl) ?_
  refine W.brF (by kernel_rfl) ?_
  refine .call cl9 (by kernel_rfl) ?_
  exact .retR (by kernel_rfl) (by kernel_rfl)
theorem round6 {Q : Ex → List AV → Heap → Prop} (q : Q .nrm fr9 hp9) : wpC E aw4 fr8 hp8 Q := by
  refine W.run false ?_
  refine W.brT (by kernel_rfl) ?_
  refine W.opR (by kernel_rfl) ?_
  refine W.opR (by kernel_rfl) ?_
  refine .call cl0 (by kernel_rfl) ?_
  refine W.opR (by kernel_rfl) ?_
  refine W.brF (by kernel_rfl) ?_
  exact W.doneE (by kernel_rfl) (by kernel_rfl) (by kernel_rfl) q
end
end Go.Proofs.YtehffjjfomapnaaGreatDoor
