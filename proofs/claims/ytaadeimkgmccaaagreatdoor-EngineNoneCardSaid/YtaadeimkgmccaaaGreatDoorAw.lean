/- The package's awake, on the abstract machine: true. -/
import Derived.Test.YtaadeimkgmccaaaGreatDoorAwA
import Derived.Test.YtaadeimkgmccaaaGreatDoorAwB
import Derived.Test.YtaadeimkgmccaaaGreatDoorAwC
import Derived.Test.YtaadeimkgmccaaaGreatDoorAwD
namespace Go.Proofs.YtaadeimkgmccaaaGreatDoor
noncomputable section
open Go Go.Abs
set_option maxRecDepth 100000
set_option maxHeartbeats 0
theorem fn5 : E.fn 5 = some a5 := by kernel_rfl
def IsT (x : DV) : Prop := x = .b true
theorem part4_ok {Q : Ex → List AV → Heap → Prop} (hQ : ∀ tm h, getL tm 0 = .d (.b true) → Q .ret tm h) : wpC E aw4 fr3 hp3 Q := by
  have ht := part4
  generalize hr : runF E 1000000 aw4 ⟨fr3, [], none⟩ hp3 = r at ht
  unfold isT5 at ht
  split at ht
  · rename_i tm h
    split at ht
    · rename_i hg
      exact .run hr (hQ _ _ hg)
    · cases ht
  · cases ht
theorem aw_ok (h : Heap) : Cal E 5 [] h (.nrm, .d (.b true), h) := by
  have goal := Cal.wpx (Good := IsT) (h := h) (args := []) (bor := false) (ds := []) fn5 rfl rfl (by rintro x rfl h1; exact (adopt_lit _ _ _).1 _) ?_
  · obtain ⟨x, rfl, hc⟩ := goal
    exact hc
  show wpC E (.seq aw0 (.seq aw1 (.seq aw2 (.seq aw3 aw4)))) (enterT 108 []) .empty _
  refine .seq (.chk part0 (.seq (.chk part1 (.seq (.chk part2 (.seq (.run part3 ?_)))))))
  show wpC E aw4 fr3 hp3 _
  exact part4_ok (fun tm h hg => .ret (.b true) rfl (by simp [a5, Abs.results, resL, resV, hg, inj1]))
end
end Go.Proofs.YtaadeimkgmccaaaGreatDoor
