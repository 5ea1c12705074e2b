/- The plain law: an item more, an id that is longer, take more; some of BoundLong's walk. -/
import Derived.Test.YtjacnbabnpgpaaaGreatDoorR
import Derived.Test.YtjacnbabnpgpaaaGreatDoorV
namespace Go.Proofs.YtjacnbabnpgpaaaGreatDoor
noncomputable section
open Go Go.Abs
set_option maxRecDepth 100000
theorem opB1 {o : OpS} (e : o.what = 1) : opB o = numB 1 ++ fragB o.frag ++ numB o.quota := by unfold opB; rw [if_pos e]
theorem opB2 {o : OpS} (e : o.what = 2) : opB o = numB 2 ++ textB o.id := by unfold opB; rw [if_neg (by omega), if_pos e]
theorem opB3 {o : OpS} (e : o.what = 3) : opB o = numB 3 ++ textB o.id ++ numB o.token ++ valB o.val ++ fragB o.frag := by unfold opB; rw [if_neg (by omega), if_neg (by omega), if_pos e]
theorem opB4 {o : OpS} (e : o.what = 4) : opB o = numB 4 ++ textB o.id ++ numB o.token := by unfold opB; rw [if_neg (by omega), if_neg (by omega), if_neg (by omega), if_pos e]
theorem opB5 {o : OpS} (e : o.what = 5) : opB o = numB 5 ++ textB o.id := by unfold opB; rw [if_neg (by omega), if_neg (by omega), if_neg (by omega), if_neg (by omega), if_pos e]
structure InO (o : OpS) (cs : List DV) : Prop where
  r : OpR o cs
  v : lenV o.val
  f : o.frag.length ≤ 9223372036854775807
  a : ∀ x ∈ o.frag, x.after.length ≤ 9223372036854775807
end
end Go.Proofs.YtjacnbabnpgpaaaGreatDoor
