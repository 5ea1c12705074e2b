/- The library's functions that stand as one operation are what they are taken for. -/
import Derived.Test.YtmaeffhiephpfaaGreatDoorZD
import Derived.Test.YtmaeffhiephpfaaGreatDoorAw
namespace Go.Proofs.YtmaeffhiephpfaaGreatDoor
open Go.Shelf
set_option maxRecDepth 100000
def ren53 : Ren := ⟨fun | 41 => 53 | n => n, fun | 22 => 34 | 23 => 64 | 4 => 4 | n => n, fun n => n⟩
theorem lays53 : SlLaysE0.n41 Tryz.prog ren53 where
  mixed := by kernel_rfl
  f41 := ⟨ "slices.Clone[[]foreman/api.Node,foreman/api.Node]", by kernel_rfl, Tryz.func53.trans (congrArg some (by kernel_rfl))⟩
  t4 := Tryz.underlying4
  a4 := Tryz.isAgg4
  z4 := Tryz.sizeOf4
  v4 := Tryz.zeroValue4
  t22 := Tryz.underlying34
  a22 := Tryz.isAgg34
  z22 := Tryz.sizeOf34
  v22 := Tryz.zeroValue34
def ren54 : Ren := ⟨fun | 41 => 54 | n => n, fun | 22 => 48 | 23 => 3 | 4 => 4 | n => n, fun n => n⟩
theorem lays54 : SlLaysE0.n41 Tryz.prog ren54 where
  mixed := by kernel_rfl
  f41 := ⟨ "slices.Clone[[]int,int]", by kernel_rfl, Tryz.func54.trans (congrArg some (by kernel_rfl))⟩
  t4 := Tryz.underlying4
  a4 := Tryz.isAgg4
  z4 := Tryz.sizeOf4
  v4 := Tryz.zeroValue4
  t22 := Tryz.underlying48
  a22 := Tryz.isAgg48
  z22 := Tryz.sizeOf48
  v22 := Tryz.zeroValue48
def ren99 : Ren := ⟨fun | 41 => 99 | n => n, fun | 22 => 155 | 23 => 158 | 4 => 4 | n => n, fun n => n⟩
theorem lays99 : SlLaysE0.n41 Tryz.prog ren99 where
  mixed := by kernel_rfl
  f41 := ⟨ "slices.Clone[[]foreman/graph.vertex,foreman/graph.vertex]", by kernel_rfl, Tryz.func99.trans (congrArg some (by kernel_rfl))⟩
  t4 := Tryz.underlying4
  a4 := Tryz.isAgg4
  z4 := Tryz.sizeOf4
  v4 := Tryz.zeroValue4
  t22 := Tryz.underlying155
  a22 := Tryz.isAgg155
  z22 := Tryz.sizeOf155
  v22 := Tryz.zeroValue155
def ren307 : Ren := ⟨fun | 21 => 307 | 27 => 316 | 28 => 317 | 35 => 327 | 39 => 333 | n => n, fun | 22 => 48 | 3 => 3 | 4 => 4 | 0 => 0 | n => n, fun n => n⟩
theorem lays307 : Lays2.n21 Tryz.prog ren307 where
  mixed := by kernel_rfl
  f21 := Tryz.func307.trans (congrArg some (by kernel_rfl))
  f27 := Tryz.func316.trans (congrArg some (by kernel_rfl))
  f28 := Tryz.func317.trans (congrArg some (by kernel_rfl))
  f35 := Tryz.func327.trans (congrArg some (by kernel_rfl))
  f39 := Tryz.func333.trans (congrArg some (by kernel_rfl))
  t0 := Tryz.underlying0
  a0 := Tryz.isAgg0
  z0 := Tryz.sizeOf0
  v0 := Tryz.zeroValue0
  t3 := Tryz.underlying3
  a3 := Tryz.isAgg3
  z3 := Tryz.sizeOf3
  v3 := Tryz.zeroValue3
  t4 := Tryz.underlying4
  a4 := Tryz.isAgg4
  z4 := Tryz.sizeOf4
  v4 := Tryz.zeroValue4
  t22 := Tryz.underlying48
  a22 := Tryz.isAgg48
  z22 := Tryz.sizeOf48
  v22 := Tryz.zeroValue48
  i3 := by kernel_rfl
open Go.Abs
theorem pr_mem {f : Nat} (h : E.pr f = true) : f = 276 ∨ f = 291 ∨ f = 307 ∨ f = 53 ∨ f = 54 ∨ f = 99 := by
  have h : prT f = true := h
  simp only [prT, Bool.or_eq_true, Nat.beq_eq] at h
  omega
theorem is_fn {f : Nat} {fn gn : Func} (h : Tryz.prog.funcs[f]? = some fn) (k : Tryz.prog.funcs[f]? = some gn) : fn = gn := Option.some.inj (h.symm.trans k)
theorem libOk : LibOk Tryz.prog E where
  clone f fn e hp hf hn hpar := by
    rcases pr_mem hp with rfl | rfl | rfl | rfl | rfl | rfl
    · cases is_fn hf Tryz.func276; exact absurd (hn.symm.trans (by kernel_rfl : _ = false)) (by simp)
    · cases is_fn hf Tryz.func291; exact absurd (hn.symm.trans (by kernel_rfl : _ = false)) (by simp)
    · cases is_fn hf Tryz.func307; exact absurd (hn.symm.trans (by kernel_rfl : _ = false)) (by simp)
    · cases is_fn hf Tryz.func53; exact .of lays53 (by kernel_rfl) Tryz.func53 (by kernel_rfl) (by kernel_rfl) (by kernel_rfl) hpar
    · cases is_fn hf Tryz.func54; exact .of lays54 (by kernel_rfl) Tryz.func54 (by kernel_rfl) (by kernel_rfl) (by kernel_rfl) hpar
    · cases is_fn hf Tryz.func99; exact .of lays99 (by kernel_rfl) Tryz.func99 (by kernel_rfl) (by kernel_rfl) (by kernel_rfl) hpar
  insrt f fn e hp hf hn hpar := by
    rcases pr_mem hp with rfl | rfl | rfl | rfl | rfl | rfl
    · cases is_fn hf Tryz.func276; exact absurd (hn.symm.trans (by kernel_rfl : _ = false)) (by simp)
    · cases is_fn hf Tryz.func291; exact absurd (hn.symm.trans (by kernel_rfl : _ = false)) (by simp)
    · cases is_fn hf Tryz.func307; exact .of lays307 (by kernel_rfl) Tryz.func307 (by kernel_rfl) (by kernel_rfl) (by kernel_rfl) hpar
    · cases is_fn hf Tryz.func53; exact absurd (hn.symm.trans (by kernel_rfl : _ = false)) (by simp)
    · cases is_fn hf Tryz.func54; exact absurd (hn.symm.trans (by kernel_rfl : _ = false)) (by simp)
    · cases is_fn hf Tryz.func99; exact absurd (hn.symm.trans (by kernel_rfl : _ = false)) (by simp)
  prim f fn p hp hf hb hpr := by
    have bad : ∀ {gn : Func}, fn = gn → gn.body.isSome = true → False := by
      rintro gn rfl hs; rw [hb] at hs; cases hs
    rcases pr_mem hp with rfl | rfl | rfl | rfl | rfl | rfl
    · cases is_fn hf Tryz.func276
      have : p = .noEscape := Option.some.inj (hpr.symm.trans (by kernel_rfl))
      subst this
      exact .noEscape Tryz.func276 (by kernel_rfl) (by kernel_rfl) (by kernel_rfl) (by kernel_rfl)
    · cases is_fn hf Tryz.func291
      have : p = .indexByte := Option.some.inj (hpr.symm.trans (by kernel_rfl))
      subst this
      exact .indexByte Tryz.func291 (by kernel_rfl) (by kernel_rfl) (by kernel_rfl) (by kernel_rfl)
    · exact (bad (is_fn hf Tryz.func307) (by kernel_rfl)).elim
    · exact (bad (is_fn hf Tryz.func53) (by kernel_rfl)).elim
    · exact (bad (is_fn hf Tryz.func54) (by kernel_rfl)).elim
    · exact (bad (is_fn hf Tryz.func99) (by kernel_rfl)).elim
theorem eOk : EOk Tryz.prog glT E where
  glob := rfl
  fn f fn' h := FT.all_get okAll h
  meth := rfl
  lib := libOk
end Go.Proofs.YtmaeffhiephpfaaGreatDoor
