/- StepNone behind its first look, on the abstract machine: whatever the operation. -/
import Derived.Test.YtmaeffhiephpfaaGreatDoorAw
namespace Go.Proofs.YtmaeffhiephpfaaGreatDoor
open Go Go.Abs
set_option maxRecDepth 100000
set_option maxHeartbeats 0
/-- The code behind the first look. -/
def rest3 : AC := match a3.body with
  | .seq _ (.seq _ r) => r
  | _ => .bad
/-- The operation's cells. -/
def opC (w : Int) (id : List UInt8) (tok k n : Int) (s : List UInt8) (m : Nat) (cs : List DV) (fm : Nat) (fcs : List DV) (q : Int) : List DV :=
  [.i .u8 w, .s id, .i .i64 tok, .i .u8 k, .i .i64 n, .s s, .sl true m cs, .sl true fm fcs, .i .i64 q]
def heap3 (O : List DV) : Heap := ((Heap.empty.push (.cells false 27 (O.map .d))).push (.cells false 27 (O.map .d)))
def tm3 (O : List DV) (b : Bool) : List AV := [.agg (O.map .d), .ptr 0 0, .d (.b false), .und, .und, .und, .und, .und, .und, .agg (O.map .d), .sref 1 0 9 1 1 true, .d (.b b), .d (.b (!b))] ++ rep 58
noncomputable def isR : Res → Bool
  | some (.ret, ⟨tm, [], none⟩, _) => match getL tm 2 with
    | .d (.b true) => true
    | _ => false
  | _ => false
theorem restT (w : Int) (id : List UInt8) (tok k n : Int) (s : List UInt8) (m : Nat) (cs : List DV) (fm : Nat) (fcs : List DV) (q : Int) :
    isR (runF E 1000000 rest3 ⟨tm3 (opC w id tok k n s m cs fm fcs q) true, [], none⟩ (heap3 (opC w id tok k n s m cs fm fcs q))) = true := by kernel_rfl
end Go.Proofs.YtmaeffhiephpfaaGreatDoor
