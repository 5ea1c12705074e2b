/- The library's functions that stand as one operation are what they are taken for. -/
import Derived.Test.YtenpedmcbmlmkaaGreatDoorZE
import Derived.Test.YtenpedmcbmlmkaaGreatDoorAw
namespace Go.Proofs.YtenpedmcbmlmkaaGreatDoor
noncomputable section
open Go.Shelf
set_option maxRecDepth 100000
def ren84 : Ren := ⟨fun | 41 => 84 | n => n, fun | 22 => 73 | 23 => 5 | 4 => 4 | n => n, fun n => n⟩
theorem lays84 : SlLaysE0.n41 Tryz.prog ren84 where
  mixed := by kernel_rfl
  f41 := ⟨ "slices.Clone[[]byte,byte]", by kernel_rfl, Tryz.func84.trans (congrArg some (by kernel_rfl))⟩
  t4 := Tryz.underlying4
  a4 := Tryz.isAgg4
  z4 := Tryz.sizeOf4
  v4 := Tryz.zeroValue4
  t22 := Tryz.underlying73
  a22 := Tryz.isAgg73
  z22 := Tryz.sizeOf73
  v22 := Tryz.zeroValue73
def ren87 : Ren := ⟨fun | 41 => 87 | n => n, fun | 22 => 43 | 23 => 69 | 4 => 4 | n => n, fun n => n⟩
theorem lays87 : SlLaysE0.n41 Tryz.prog ren87 where
  mixed := by kernel_rfl
  f41 := ⟨ "slices.Clone[[]foreman/api.Node,foreman/api.Node]", by kernel_rfl, Tryz.func87.trans (congrArg some (by kernel_rfl))⟩
  t4 := Tryz.underlying4
  a4 := Tryz.isAgg4
  z4 := Tryz.sizeOf4
  v4 := Tryz.zeroValue4
  t22 := Tryz.underlying43
  a22 := Tryz.isAgg43
  z22 := Tryz.sizeOf43
  v22 := Tryz.zeroValue43
def ren88 : Ren := ⟨fun | 41 => 88 | n => n, fun | 22 => 67 | 23 => 3 | 4 => 4 | n => n, fun n => n⟩
theorem lays88 : SlLaysE0.n41 Tryz.prog ren88 where
  mixed := by kernel_rfl
  f41 := ⟨ "slices.Clone[[]int,int]", by kernel_rfl, Tryz.func88.trans (congrArg some (by kernel_rfl))⟩
  t4 := Tryz.underlying4
  a4 := Tryz.isAgg4
  z4 := Tryz.sizeOf4
  v4 := Tryz.zeroValue4
  t22 := Tryz.underlying67
  a22 := Tryz.isAgg67
  z22 := Tryz.sizeOf67
  v22 := Tryz.zeroValue67
def ren144 : Ren := ⟨fun | 41 => 144 | n => n, fun | 22 => 223 | 23 => 226 | 4 => 4 | n => n, fun n => n⟩
theorem lays144 : SlLaysE0.n41 Tryz.prog ren144 where
  mixed := by kernel_rfl
  f41 := ⟨ "slices.Clone[[]foreman/graph.vertex,foreman/graph.vertex]", by kernel_rfl, Tryz.func144.trans (congrArg some (by kernel_rfl))⟩
  t4 := Tryz.underlying4
  a4 := Tryz.isAgg4
  z4 := Tryz.sizeOf4
  v4 := Tryz.zeroValue4
  t22 := Tryz.underlying223
  a22 := Tryz.isAgg223
  z22 := Tryz.sizeOf223
  v22 := Tryz.zeroValue223
def ren453 : Ren := ⟨fun | 21 => 453 | 27 => 460 | 28 => 461 | 35 => 471 | 39 => 477 | n => n, fun | 22 => 67 | 3 => 3 | 4 => 4 | 0 => 0 | n => n, fun n => n⟩
theorem lays453 : Lays2.n21 Tryz.prog ren453 where
  mixed := by kernel_rfl
  f21 := Tryz.func453.trans (congrArg some (by kernel_rfl))
  f27 := Tryz.func460.trans (congrArg some (by kernel_rfl))
  f28 := Tryz.func461.trans (congrArg some (by kernel_rfl))
  f35 := Tryz.func471.trans (congrArg some (by kernel_rfl))
  f39 := Tryz.func477.trans (congrArg some (by kernel_rfl))
  t0 := Tryz.underlying0
  a0 := Tryz.isAgg0
  z0 := Tryz.sizeOf0
  v0 := Tryz.zeroValue0
  t3 := Tryz.underlying3
  a3 := Tryz.isAgg3
  z3 := Tryz.sizeOf3
  v3 := Tryz.zeroValue3
  t4 := Tryz.underlying4
  a4 := Tryz.isAgg4
  z4 := Tryz.sizeOf4
  v4 := Tryz.zeroValue4
  t22 := Tryz.underlying67
  a22 := Tryz.isAgg67
  z22 := Tryz.sizeOf67
  v22 := Tryz.zeroValue67
  i3 := by kernel_rfl
open Go.Abs
theorem pr_mem {f : Nat} (h : E.pr f = true) : f = 422 ∨ f = 434 ∨ f = 453 ∨ f = 84 ∨ f = 87 ∨ f = 88 ∨ f = 144 := by
  have h : prT f = true := h
  simp only [prT, Bool.or_eq_true, Nat.beq_eq] at h
  omega
theorem is_fn {f : Nat} {fn gn : Func} (h : Tryz.prog.funcs[f]? = some fn) (k : Tryz.prog.funcs[f]? = some gn) : fn = gn := Option.some.inj (h.symm.trans k)
theorem libOk : LibOk Tryz.prog E where
  clone f fn e hp hf hn hpar := by
    rcases pr_mem hp with rfl | rfl | rfl | rfl | rfl | rfl | rfl
    · cases is_fn hf Tryz.func422; exact absurd (hn.symm.trans (by kernel_rfl : _ = false)) (by simp)
    · cases is_fn hf Tryz.func434; exact absurd (hn.symm.trans (by kernel_rfl : _ = false)) (by simp)
    · cases is_fn hf Tryz.func453; exact absurd (hn.symm.trans (by kernel_rfl : _ = false)) (by simp)
    · cases is_fn hf Tryz.func84; exact .of lays84 (by kernel_rfl) Tryz.func84 (by kernel_rfl) (by kernel_rfl) (by kernel_rfl) hpar
    · cases is_fn hf Tryz.func87; exact .of lays87 (by kernel_rfl) Tryz.func87 (by kernel_rfl) (by kernel_rfl) (by kernel_rfl) hpar
    · cases is_fn hf Tryz.func88; exact .of lays88 (by kernel_rfl) Tryz.func88 (by kernel_rfl) (by kernel_rfl) (by kernel_rfl) hpar
    · cases is_fn hf Tryz.func144; exact .of lays144 (by kernel_rfl) Tryz.func144 (by kernel_rfl) (by kernel_rfl) (by kernel_rfl) hpar
  insrt f fn e hp hf hn hpar := by
    rcases pr_mem hp with rfl | rfl | rfl | rfl | rfl | rfl | rfl
    · cases is_fn hf Tryz.func422; exact absurd (hn.symm.trans (by kernel_rfl : _ = false)) (by simp)
    · cases is_fn hf Tryz.func434; exact absurd (hn.symm.trans (by kernel_rfl : _ = false)) (by simp)
    · cases is_fn hf Tryz.func453; exact .of lays453 (by kernel_rfl) Tryz.func453 (by kernel_rfl) (by kernel_rfl) (by kernel_rfl) hpar
    · cases is_fn hf Tryz.func84; exact absurd (hn.symm.trans (by kernel_rfl : _ = false)) (by simp)
    · cases is_fn hf Tryz.func87; exact absurd (hn.symm.trans (by kernel_rfl : _ = false)) (by simp)
    · cases is_fn hf Tryz.func88; exact absurd (hn.symm.trans (by kernel_rfl : _ = false)) (by simp)
    · cases is_fn hf Tryz.func144; exact absurd (hn.symm.trans (by kernel_rfl : _ = false)) (by simp)
  prim f fn p hp hf hb hpr := by
    have bad : ∀ {gn : Func}, fn = gn → gn.body.isSome = true → False := by
      rintro gn rfl hs; rw [hb] at hs; cases hs
    rcases pr_mem hp with rfl | rfl | rfl | rfl | rfl | rfl | rfl
    · cases is_fn hf Tryz.func422
      have : p = .noEscape := Option.some.inj (hpr.symm.trans (by kernel_rfl))
      subst this
      exact .noEscape Tryz.func422 (by kernel_rfl) (by kernel_rfl) (by kernel_rfl) (by kernel_rfl)
    · cases is_fn hf Tryz.func434
      have : p = .indexByte := Option.some.inj (hpr.symm.trans (by kernel_rfl))
      subst this
      exact .indexByte Tryz.func434 (by kernel_rfl) (by kernel_rfl) (by kernel_rfl) (by kernel_rfl)
    · exact (bad (is_fn hf Tryz.func453) (by kernel_rfl)).elim
    · exact (bad (is_fn hf Tryz.func84) (by kernel_rfl)).elim
    · exact (bad (is_fn hf Tryz.func87) (by kernel_rfl)).elim
    · exact (bad (is_fn hf Tryz.func88) (by kernel_rfl)).elim
    · exact (bad (is_fn hf Tryz.func144) (by kernel_rfl)).elim
theorem eOk : EOk Tryz.prog glT E where
  glob := rfl
  fn f fn' h := FT.all_get okAll h
  meth := rfl
  lib := libOk
end
end Go.Proofs.YtenpedmcbmlmkaaGreatDoor
