/- What a text that comes in is like, by its type. -/
import Derived.Test.YtfbjkckdmigaoaaGreatDoorF
import Derived.Test.YtfbjkckdmigaoaaGreatDoorZE
namespace Go.Proofs.YtfbjkckdmigaoaaGreatDoor
noncomputable section
open Go Go.Abs
set_option maxRecDepth 100000
theorem co5 : Tryz.prog.cellsOf 5 = 1 := by kernel_rfl
theorem ty_str {t : TypeId} (hu : Tryz.prog.underlying t = some .string) {l : List DV} (h : TyOk Tryz.prog t l) : ∃ s,l = [.s s] := by
  cases h with
  | int _ k' n ht hw => rw [hu] at ht; cases ht
  | bool _ x ht => rw [hu] at ht; cases ht
  | str _ s ht hs => exact ⟨s,rfl⟩
  | sl _ e n cells ht => rw [hu] at ht; cases ht
  | arr _ e n cells ht => rw [hu] at ht; cases ht
  | struct _ fs cs ht => rw [hu] at ht; cases ht
theorem closed : closedT Tryz.prog [9] = true := by kernel_rfl
end
end Go.Proofs.YtfbjkckdmigaoaaGreatDoor
