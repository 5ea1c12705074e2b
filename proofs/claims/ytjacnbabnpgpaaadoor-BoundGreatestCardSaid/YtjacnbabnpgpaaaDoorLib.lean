/- The library's function that stands as one operation is what it is taken for. -/
import Derived.Test.YtjacnbabnpgpaaaDoorZE
import Derived.Test.YtjacnbabnpgpaaaDoorEnv
namespace Go.Proofs.YtjacnbabnpgpaaaDoor
noncomputable section
open Go.Shelf
set_option maxRecDepth 100000
def ren19 : Ren := ⟨fun | 41 => 19 | n => n, fun | 22 => 22 | 23 => 5 | 4 => 4 | n => n, fun n => n⟩
theorem lays19 : SlLaysE0.n41 Tryd.prog ren19 where
  mixed := by kernel_rfl
  f41 := ⟨ "slices.Clone[[]byte,byte]", by kernel_rfl, Tryd.func19.trans (congrArg some (by kernel_rfl))⟩
  t4 := Tryd.underlying4
  a4 := Tryd.isAgg4
  z4 := Tryd.sizeOf4
  v4 := Tryd.zeroValue4
  t22 := Tryd.underlying22
  a22 := Tryd.isAgg22
  z22 := Tryd.sizeOf22
  v22 := Tryd.zeroValue22
open Go.Abs
theorem pr_mem {f : Nat} (h : E.pr f = true) : f = 19 := by
  have h : prT f = true := h
  simp only [prT, Nat.beq_eq] at h
  exact h
theorem is_fn {f : Nat} {fn gn : Func} (h : Tryd.prog.funcs[f]? = some fn) (k : Tryd.prog.funcs[f]? = some gn) : fn = gn := Option.some.inj (h.symm.trans k)
theorem libOk : LibOk Tryd.prog E where
  clone f fn e hp hf hn hpar := by
    obtain rfl := pr_mem hp
    cases is_fn hf Tryd.func19
    exact .of lays19 (by kernel_rfl) Tryd.func19 (by kernel_rfl) (by kernel_rfl) (by kernel_rfl) hpar
  insrt f fn e hp hf hn hpar := by
    obtain rfl := pr_mem hp
    cases is_fn hf Tryd.func19
    exact absurd (hn.symm.trans (by kernel_rfl : _ = false)) (by simp)
  prim f fn p hp hf hb hpr := by
    obtain rfl := pr_mem hp
    cases is_fn hf Tryd.func19
    exact absurd hb (show ¬ (Tryd.f19.body = none) from fun e => by have e2 : Tryd.f19.body.isSome = true := by kernel_rfl
                                                                    rw [e] at e2; cases e2)
theorem eOk : EOk Tryd.prog glT E where
  glob := rfl
  fn _f _fn' h := FT.all_get okAll h
  meth := rfl
  lib := libOk
end
end Go.Proofs.YtjacnbabnpgpaaaDoor
