/- Contracts: wire.Num, wire.Text. -/
import Derived.Test.YtgjhldabffjiaaaGreatDoorF
namespace Go.Proofs.YtgjhldabffjiaaaGreatDoor
noncomputable section
open Go Go.Abs
set_option maxRecDepth 100000
theorem TD {h:Heap} {q:EqK} {j k:IntKind} {x:Int} {m:Nat} {r:Int} (hr:N8 j x (.ofNat m)=some (.d (.i j r))):wS h [] .shr q (.c (.d (.i j x))) (.c (.d (.i k (.ofNat m))))= .val (.d (.i j r)) h:=by
 unfold wS Mb; simp only [X.ev,wm,arith,hr]; rfl
end
end Go.Proofs.YtgjhldabffjiaaaGreatDoor
