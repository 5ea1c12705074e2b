/- The package's awake, on the abstract machine: true. -/
import Derived.Test.YtgjhldabffjiaaaGreatDoorAwA
import Derived.Test.YtgjhldabffjiaaaGreatDoorAwB
import Derived.Test.YtgjhldabffjiaaaGreatDoorAwC
import Derived.Test.YtgjhldabffjiaaaGreatDoorAwD
import Derived.Test.YtgjhldabffjiaaaGreatDoorAwE
import Derived.Test.YtgjhldabffjiaaaGreatDoorAwF
import Derived.Test.YtgjhldabffjiaaaGreatDoorAwX
namespace Go.Proofs.YtgjhldabffjiaaaGreatDoor
noncomputable section
open Go Go.Abs
set_option maxRecDepth 100000
set_option maxHeartbeats 0
theorem fn4:E.fn 5=some ⟨38,[.tmp 0],.seq aw0 (.seq aw1 (.seq aw2 (.seq (.seq aw3 (.blk 0 (.loop aw4))) aw5))),false⟩:=by kernel_rfl
def IsT (x:DV):Prop:=x= .b true
theorem L8 {Q:Ex→List AV→Heap→Prop} (hQ:∀tm h,getL tm 0= .d (.b true)→Q .ret tm h):wpC E aw5 Nk Nl Q:=by
 have ht:=S8
 generalize hr:mz E 1000000 aw5 ⟨Nk,[],none⟩ Nl=r at ht
 unfold Vf at ht
 split at ht
 ·rename_i tm h
  split at ht
  ·rename_i hg
   exact .run hr (hQ _ _ hg)
  ·cases ht
 ·cases ht
theorem sF (h:Heap):Cal E 5 [] h (.nrm,.d (.b true),h):=by
 have goal:=Cal.wpx (Good:=IsT) (h:=h) (args:=[]) (bor:=false) (ds:=[]) fn4 rfl rfl (by rintro x rfl h1; exact (L9 _ _ _).1 _) ?_
 ·obtain ⟨x,rfl,hc⟩:=goal
  exact hc
 show wpC E (.seq aw0 (.seq aw1 (.seq aw2 (.seq (.seq aw3 (.blk 0 (.loop aw4))) aw5)))) (enterT 38 []) .empty _
 refine .seq (.chk Vg (.seq (.chk Vh (.seq (.chk Vi (.seq (.seq (.chk Vj (.blk (wpC.BQ abt (wpC.BQ abu (wpC.BQ abv (.rnd (S9 (wpC.S_ 2 abw (wpC.S_ 5 abx (.rnd (.run Ta ?_))))))))))))))))))
 show wpC E aw5 Nk Nl _
 exact L8 (fun tm h hg=> .ret (.b true) rfl (by simp [Abs.results,L_,resV,hg,inj1]))
end
end Go.Proofs.YtgjhldabffjiaaaGreatDoor
