/- The package's awake, on the abstract machine: true. -/
import Derived.Test.YtehffjjfomapnaaGreatDoorAwA
import Derived.Test.YtehffjjfomapnaaGreatDoorAwB
import Derived.Test.YtehffjjfomapnaaGreatDoorAwC
import Derived.Test.YtehffjjfomapnaaGreatDoorAwD
import Derived.Test.YtehffjjfomapnaaGreatDoorAwE
import Derived.Test.YtehffjjfomapnaaGreatDoorAwF
import Derived.Test.YtehffjjfomapnaaGreatDoorAwX
namespace Go.Proofs.YtehffjjfomapnaaGreatDoor
noncomputable section
open Go Go.Abs
set_option maxRecDepth 100000
set_option maxHeartbeats 0
theorem fn4 : E.fn 5 = some ⟨38,[.tmp 0],.seq aw0 (.seq aw1 (.seq aw2 (.seq (.seq aw3 (.blk 0 (.loop aw4))) aw5))),false⟩ := by kernel_rfl
def IsT (x : DV) : Prop := x = .b true
theorem part18_ok {Q : Ex → List AV → Heap → Prop} (hQ : ∀ tm h,getL tm 0 = .d (.b true) → Q .ret tm h) : wpC E aw5 fr17 hp17 Q := by
  have ht := part18
  generalize hr : runF E 1000000 aw5 ⟨fr17,[],none⟩ hp17 = r at ht
  unfold isT5 at ht
  split at ht
  · rename_i tm h
    split at ht
    · rename_i hg
      exact .run hr (hQ _ _ hg)
    · cases ht
  · cases ht
theorem aw_ok (h : Heap) : Cal E 5 [] h (.nrm,.d (.b true),h) := by
  have goal := Cal.wpx (Good := IsT) (h := h) (args := []) (bor := false) (ds := []) fn4 rfl rfl (by rintro x rfl h1; exact (adopt_lit _ _ _).1 _) ?_
  · obtain ⟨x,rfl,hc⟩ := goal
    exact hc
  show wpC E (.seq aw0 (.seq aw1 (.seq aw2 (.seq (.seq aw3 (.blk 0 (.loop aw4))) aw5)))) (enterT 38 []) .empty _
  refine .seq (.chk part0 (.seq (.chk part1 (.seq (.chk part2 (.seq (.seq (.chk part3 (.blk (wpC.rnds grp1 (wpC.rnds grp2 (wpC.rnds grp5 (.rnd (round6 (wpC.rndE 2 grp7 (wpC.rndE 5 grp9 (.rnd (.run part17 ?_))))))))))))))))))
  show wpC E aw5 fr17 hp17 _
  exact part18_ok (fun tm h hg => .ret (.b true) rfl (by simp [Abs.results,resL,resV,hg,inj1]))
end
end Go.Proofs.YtehffjjfomapnaaGreatDoor
