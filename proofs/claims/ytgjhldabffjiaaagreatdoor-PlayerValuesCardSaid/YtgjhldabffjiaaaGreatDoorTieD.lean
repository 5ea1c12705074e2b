/- The row's tie. -/
import Derived.Test.YtgjhldabffjiaaaGreatDoorTieB
import Derived.Test.YtgjhldabffjiaaaGreatDoorTieC
namespace Go.Proofs.YtgjhldabffjiaaaGreatDoor
noncomputable section
open Go
set_option maxRecDepth 100000
theorem pin_laid_unicode_utf8_first:Tryz.pinned.checked.prog.pinnedFits "unicode/utf8.first" =true:=by kernel_rfl
theorem noOwnUnsafe:Tryz.pinned.checked.prog.headLifts.contains "ownunsafe" =false:=by kernel_rfl
theorem fits1:Tryz.pinned.checked.prog.listedFits (("unicode/utf8.first",Rows.laid_unicode_utf8_first)::tl)=true:=by
 unfold Program.listedFits
 rw [noOwnUnsafe]
 kernel_rfl
theorem tie:Tryz.prog.laidByTextLater tl [.data,.data,.data,.data,.sentinel,.sentinel,.data] true:=
 Program.laidByTextLater_by_run 400 8 ab6 ab7 ab8 ab9 ab_ acd ace acf acg
theorem playerValues_row_tie:Rows.playerValuesRow.laidByTextAt .later Tryz.pinned [.pinned,.data,.data,.data,.data,.sentinel,.sentinel,.data] true:=
 OpenClaim.laidByTextAt_pinned rfl rfl tie rfl rfl rfl rfl (fun y hy _e => by
  simp only [Rows.playerValuesRow,List.zip_cons_cons,List.zip_nil_right,List.mem_cons,List.mem_nil_iff,or_false] at hy
  rcases hy with rfl | rfl | rfl | rfl | rfl | rfl | rfl | rfl
  ·exact ⟨pin_laid_unicode_utf8_first,by kernel_rfl⟩
  ·cases _e
  ·cases _e
  ·cases _e
  ·cases _e
  ·cases _e
  ·cases _e
  ·cases _e) fits1
end
end Go.Proofs.YtgjhldabffjiaaaGreatDoor
