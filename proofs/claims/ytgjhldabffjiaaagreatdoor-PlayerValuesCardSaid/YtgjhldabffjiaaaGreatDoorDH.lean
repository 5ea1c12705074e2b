/- What is handed back lies in a cell. -/
import Derived.Test.YtgjhldabffjiaaaGreatDoorNm
import Derived.Test.YtgjhldabffjiaaaGreatDoorZF
namespace Go.Proofs.YtgjhldabffjiaaaGreatDoor
open Go Go.Abs
set_option maxRecDepth 100000
set_option maxHeartbeats 0
noncomputable section
def zV:List AV:=[.d (.i .u8 0),.d (.i .i64 0),.d (.s []),.nilsl]
def vB (k n:Int) (s:List UInt8) (LA:AV):List AV:=[.d (.i .u8 k),.d (.i .i64 n),.d (.s s),LA]
theorem QB {E:Env} {rs:List RV} {N P:AV→Heap→Prop} {c:Cfg} {t n a:Nat} {fr:Bool} {e:TypeId} {cs:List AV} {hp:Heap} (k:Nat) (hk:k=0∨k=1) (hrs:rs=[.cell t true n]) (he:(adO E c).p (adv E c).ex=(adO E c).q (some k)) (ht:getL (adv E c).tm t= .ptr a 0) (hh:(adv E c).hp=hp)
  (hg:hp.get a=some (.cells fr e cs)) (hn:cs.length=n) (q:N (.agg cs) hp):W E (OutP E rs N P) c:=by
 subst hrs hn
 refine .done k he (.inl ⟨?_,.agg cs,?_,hh▸q⟩)
 ·rcases hk with rfl | rfl
  ·exact .inl rfl
  ·exact .inr rfl
 ·have:resV E (adv E c).hp (adv E c).tm (.cell t true cs.length)=some (.agg cs):=by
   simp only [resV,ht,hh,loadA,hg,readN_all,one]
  show (match (match resV E (adv E c).hp (adv E c).tm (.cell t true cs.length) with | some v=> some [v] | none=> none) with | some [v]=> some v | some l=> some (.tup l) | none=> none)=_
  rw [this]
end
end Go.Proofs.YtgjhldabffjiaaaGreatDoor
