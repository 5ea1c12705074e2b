/- The sixth round of awake: it crashes, and is opened. -/
import Derived.Test.YtgjhldabffjiaaaGreatDoorAwH
import Derived.Test.YtgjhldabffjiaaaGreatDoorAwI
namespace Go.Proofs.YtgjhldabffjiaaaGreatDoor
open Go Go.Abs
set_option maxRecDepth 100000
set_option maxHeartbeats 0
noncomputable section
theorem Tp:E.fn 136=some Tq:=by kernel_rfl
theorem abH:Cal E 136 [(P 1)] Nn (.nrm,(.tup [(P 892),(k 0)]),Tm):=by
 refine Cal.wrF Tp (.inr rfl) ?_
 refine .call aby (by kernel_rfl) ?_
 refine W.brF (by kernel_rfl) ?_
 refine .call abz (by kernel_rfl) ?_
 refine W.brF (by kernel_rfl) ?_
 refine .call abB (by kernel_rfl) ?_
 refine W.brT (by kernel_rfl) ?_
 refine .call abC (by kernel_rfl) ?_
 exact .yU (by kernel_rfl) (by kernel_rfl)
theorem Vo:E.fn 90=some a90:=by kernel_rfl
theorem abI:Cal E 90 [(P 1),(k 50000)] Nn (.nrm,(.tup [(P 893),(k 0)]),Tn):=by
 refine Cal.wrF Vo (.inr rfl) ?_
 refine W.brF (by kernel_rfl) ?_
 refine .call abH (by kernel_rfl) ?_
 refine .call abD (by kernel_rfl) ?_
 exact .yU (by kernel_rfl) (by kernel_rfl)
theorem Vp:E.fn 54=some a54:=by kernel_rfl
theorem cl9:Cal E 54 [(P 81),(.agg [(.app 551 0 4 [(j 0),(j 0),(j 0),(j 0)]),we,w0,we,(k 0),w0,(k 0),we,ns,ns,(k 0)])] he9 (.nrm,g11,Nq):=by
 refine Cal.wrF Vp (.inr rfl) ?_
 refine W.opR (by kernel_rfl) ?_
 refine .call abA (by kernel_rfl) ?_
 refine .call abI (by kernel_rfl) ?_
 refine W.brF (by kernel_rfl) ?_
 refine .call abE (by kernel_rfl) ?_
 refine .call abF (by kernel_rfl) ?_
 refine .call abG (by kernel_rfl) ?_
 exact .yU (by kernel_rfl) (by kernel_rfl)
theorem Vq:E.fn 12=some a12:=by kernel_rfl
theorem cl0:Cal E 12 [(P 81),g10] he0 (.nrm,g11,Nq):=by
 refine Cal.wrF Vq (.inr rfl) ?_
 refine .call cl1 (by kernel_rfl) ?_
 refine W.brF (by kernel_rfl) ?_
 refine .call cl3 (by kernel_rfl) ?_
 refine .call cl5 (by kernel_rfl) ?_
 refine W.opR (by kernel_rfl) ?_
 refine W.brF (by kernel_rfl) ?_
 refine W.opR (by kernel_rfl) ?_
 refine .call cl7 (by kernel_rfl) ?_
 refine W.brF (by kernel_rfl) ?_
 refine .call cl9 (by kernel_rfl) ?_
 exact .yU (by kernel_rfl) (by kernel_rfl)
theorem S9 {Q:Ex→List AV→Heap→Prop} (q:Q .nrm fr9 hp9):wpC E aw4 fr8 hp8 Q:=by
 refine W.run false ?_
 refine W.brT (by kernel_rfl) ?_
 refine W.opR (by kernel_rfl) ?_
 refine W.opR (by kernel_rfl) ?_
 refine .call cl0 (by kernel_rfl) ?_
 refine W.opR (by kernel_rfl) ?_
 refine W.brF (by kernel_rfl) ?_
 exact W.Vk (by kernel_rfl) (by kernel_rfl) (by kernel_rfl) q
end
end Go.Proofs.YtgjhldabffjiaaaGreatDoor
