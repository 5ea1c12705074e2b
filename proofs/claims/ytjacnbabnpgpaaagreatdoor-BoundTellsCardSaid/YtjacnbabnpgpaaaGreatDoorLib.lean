/- The library's function that stands as one operation is what it is taken for. -/
import Derived.Test.YtjacnbabnpgpaaaGreatDoorZE
import Derived.Test.YtjacnbabnpgpaaaGreatDoorEnv
namespace Go.Proofs.YtjacnbabnpgpaaaGreatDoor
noncomputable section
open Go.Shelf
set_option maxRecDepth 100000
def ren56 : Ren := ⟨fun | 41 => 56 | n => n, fun | 22 => 54 | 23 => 5 | 4 => 4 | n => n, fun n => n⟩
theorem lays56 : SlLaysE0.n41 Tryz.prog ren56 where
  mixed := by kernel_rfl
  f41 := ⟨ "slices.Clone[[]byte,byte]", by kernel_rfl, Tryz.func56.trans (congrArg some (by kernel_rfl))⟩
  t4 := Tryz.underlying4
  a4 := Tryz.isAgg4
  z4 := Tryz.sizeOf4
  v4 := Tryz.zeroValue4
  t22 := Tryz.underlying54
  a22 := Tryz.isAgg54
  z22 := Tryz.sizeOf54
  v22 := Tryz.zeroValue54
open Go.Abs
theorem pr_mem {f : Nat} (h : E.pr f = true) : f = 56 := by
  have h : prT f = true := h
  simp only [prT, Nat.beq_eq] at h
  exact h
theorem is_fn {f : Nat} {fn gn : Func} (h : Tryz.prog.funcs[f]? = some fn) (k : Tryz.prog.funcs[f]? = some gn) : fn = gn := Option.some.inj (h.symm.trans k)
theorem libOk : LibOk Tryz.prog E where
  clone f fn e hp hf hn hpar := by
    obtain rfl := pr_mem hp
    cases is_fn hf Tryz.func56
    exact .of lays56 (by kernel_rfl) Tryz.func56 (by kernel_rfl) (by kernel_rfl) (by kernel_rfl) hpar
theorem eOk : EOk Tryz.prog glT E where
  glob := rfl
  fn _f _fn' h := FT.all_get okAll h
  meth := rfl
  lib := libOk
end
end Go.Proofs.YtjacnbabnpgpaaaGreatDoor
