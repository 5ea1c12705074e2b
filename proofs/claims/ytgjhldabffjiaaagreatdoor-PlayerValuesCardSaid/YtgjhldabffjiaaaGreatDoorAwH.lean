/- A part of awake. -/
import Derived.Test.YtgjhldabffjiaaaGreatDoorAwL
namespace Go.Proofs.YtgjhldabffjiaaaGreatDoor
noncomputable section
open Go Go.Abs
set_option maxRecDepth 100000
set_option maxHeartbeats 0
theorem aby:Cal E 116 [(P 1)] Nn (.nrm,(.tup [(P 579),(.app 561 0 5 [(.sl F 1 [(.sl F 18 (y [2,1,0,0,0,0,0,0,0,200,1,12,24,4,24,0,0,0]))]),(.sl F 1 [(.sl F 24 (y [1,1,0,0,0,0,0,0,0,2,4,2,97,0,0,0,2,98,0,2,2,97,0,18]))]),(.sl F 1 [(.sl F 14 (y [1,1,0,0,0,0,0,0,0,4,6,48,47,97]))]),(.sl F 1 [(.sl F 22 (y [1,1,0,0,0,0,0,0,0,6,6,48,47,97,2,4,4,0,10,0,14,0]))]),(.sl F 1 [(.sl F 14 (y [1,1,0,0,0,0,0,0,0,4,6,48,47,98]))])]),(k 0)]),Tg):=Cal.Ma 1000000 (by kernel_rfl)
end
end Go.Proofs.YtgjhldabffjiaaaGreatDoor
