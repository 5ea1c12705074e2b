/- The library's functions that stand as one operation are what they are taken for. -/
import Derived.Test.YtaadeimkgmccaaaGreatDoorZE
import Derived.Test.YtaadeimkgmccaaaGreatDoorAw
namespace Go.Proofs.YtaadeimkgmccaaaGreatDoor
noncomputable section
open Go.Shelf
set_option maxRecDepth 100000
def ren79 : Ren := ⟨fun | 41 => 79 | n => n, fun | 22 => 47 | 23 => 83 | 4 => 4 | n => n, fun n => n⟩
theorem lays79 : SlLaysE0.n41 Tryz.prog ren79 where
  mixed := by kernel_rfl
  f41 := ⟨ "slices.Clone[[]foreman/api.Node,foreman/api.Node]", by kernel_rfl, Tryz.func79.trans (congrArg some (by kernel_rfl))⟩
  t4 := Tryz.underlying4
  a4 := Tryz.isAgg4
  z4 := Tryz.sizeOf4
  v4 := Tryz.zeroValue4
  t22 := Tryz.underlying47
  a22 := Tryz.isAgg47
  z22 := Tryz.sizeOf47
  v22 := Tryz.zeroValue47
def ren80 : Ren := ⟨fun | 41 => 80 | n => n, fun | 22 => 81 | 23 => 3 | 4 => 4 | n => n, fun n => n⟩
theorem lays80 : SlLaysE0.n41 Tryz.prog ren80 where
  mixed := by kernel_rfl
  f41 := ⟨ "slices.Clone[[]int,int]", by kernel_rfl, Tryz.func80.trans (congrArg some (by kernel_rfl))⟩
  t4 := Tryz.underlying4
  a4 := Tryz.isAgg4
  z4 := Tryz.sizeOf4
  v4 := Tryz.zeroValue4
  t22 := Tryz.underlying81
  a22 := Tryz.isAgg81
  z22 := Tryz.sizeOf81
  v22 := Tryz.zeroValue81
def ren115 : Ren := ⟨fun | 41 => 115 | n => n, fun | 22 => 58 | 23 => 5 | 4 => 4 | n => n, fun n => n⟩
theorem lays115 : SlLaysE0.n41 Tryz.prog ren115 where
  mixed := by kernel_rfl
  f41 := ⟨ "slices.Clone[[]byte,byte]", by kernel_rfl, Tryz.func115.trans (congrArg some (by kernel_rfl))⟩
  t4 := Tryz.underlying4
  a4 := Tryz.isAgg4
  z4 := Tryz.sizeOf4
  v4 := Tryz.zeroValue4
  t22 := Tryz.underlying58
  a22 := Tryz.isAgg58
  z22 := Tryz.sizeOf58
  v22 := Tryz.zeroValue58
def ren129 : Ren := ⟨fun | 41 => 129 | n => n, fun | 22 => 211 | 23 => 214 | 4 => 4 | n => n, fun n => n⟩
theorem lays129 : SlLaysE0.n41 Tryz.prog ren129 where
  mixed := by kernel_rfl
  f41 := ⟨ "slices.Clone[[]foreman/graph.vertex,foreman/graph.vertex]", by kernel_rfl, Tryz.func129.trans (congrArg some (by kernel_rfl))⟩
  t4 := Tryz.underlying4
  a4 := Tryz.isAgg4
  z4 := Tryz.sizeOf4
  v4 := Tryz.zeroValue4
  t22 := Tryz.underlying211
  a22 := Tryz.isAgg211
  z22 := Tryz.sizeOf211
  v22 := Tryz.zeroValue211
def ren443 : Ren := ⟨fun | 21 => 443 | 27 => 450 | 28 => 451 | 35 => 461 | 39 => 467 | n => n, fun | 22 => 81 | 3 => 3 | 4 => 4 | 0 => 0 | n => n, fun n => n⟩
theorem lays443 : Lays2.n21 Tryz.prog ren443 where
  mixed := by kernel_rfl
  f21 := Tryz.func443.trans (congrArg some (by kernel_rfl))
  f27 := Tryz.func450.trans (congrArg some (by kernel_rfl))
  f28 := Tryz.func451.trans (congrArg some (by kernel_rfl))
  f35 := Tryz.func461.trans (congrArg some (by kernel_rfl))
  f39 := Tryz.func467.trans (congrArg some (by kernel_rfl))
  t0 := Tryz.underlying0
  a0 := Tryz.isAgg0
  z0 := Tryz.sizeOf0
  v0 := Tryz.zeroValue0
  t3 := Tryz.underlying3
  a3 := Tryz.isAgg3
  z3 := Tryz.sizeOf3
  v3 := Tryz.zeroValue3
  t4 := Tryz.underlying4
  a4 := Tryz.isAgg4
  z4 := Tryz.sizeOf4
  v4 := Tryz.zeroValue4
  t22 := Tryz.underlying81
  a22 := Tryz.isAgg81
  z22 := Tryz.sizeOf81
  v22 := Tryz.zeroValue81
  i3 := by kernel_rfl
open Go.Abs
theorem pr_mem {f : Nat} (h : E.pr f = true) : f = 412 ∨ f = 424 ∨ f = 443 ∨ f = 79 ∨ f = 80 ∨ f = 115 ∨ f = 129 := by
  have h : prT f = true := h
  simp only [prT, Bool.or_eq_true, Nat.beq_eq] at h
  omega
theorem is_fn {f : Nat} {fn gn : Func} (h : Tryz.prog.funcs[f]? = some fn) (k : Tryz.prog.funcs[f]? = some gn) : fn = gn := Option.some.inj (h.symm.trans k)
theorem libOk : LibOk Tryz.prog E where
  clone f fn e hp hf hn hpar := by
    rcases pr_mem hp with rfl | rfl | rfl | rfl | rfl | rfl | rfl
    · cases is_fn hf Tryz.func412; exact absurd (hn.symm.trans (by kernel_rfl : _ = false)) (by simp)
    · cases is_fn hf Tryz.func424; exact absurd (hn.symm.trans (by kernel_rfl : _ = false)) (by simp)
    · cases is_fn hf Tryz.func443; exact absurd (hn.symm.trans (by kernel_rfl : _ = false)) (by simp)
    · cases is_fn hf Tryz.func79; exact .of lays79 (by kernel_rfl) Tryz.func79 (by kernel_rfl) (by kernel_rfl) (by kernel_rfl) hpar
    · cases is_fn hf Tryz.func80; exact .of lays80 (by kernel_rfl) Tryz.func80 (by kernel_rfl) (by kernel_rfl) (by kernel_rfl) hpar
    · cases is_fn hf Tryz.func115; exact .of lays115 (by kernel_rfl) Tryz.func115 (by kernel_rfl) (by kernel_rfl) (by kernel_rfl) hpar
    · cases is_fn hf Tryz.func129; exact .of lays129 (by kernel_rfl) Tryz.func129 (by kernel_rfl) (by kernel_rfl) (by kernel_rfl) hpar
  insrt f fn e hp hf hn hpar := by
    rcases pr_mem hp with rfl | rfl | rfl | rfl | rfl | rfl | rfl
    · cases is_fn hf Tryz.func412; exact absurd (hn.symm.trans (by kernel_rfl : _ = false)) (by simp)
    · cases is_fn hf Tryz.func424; exact absurd (hn.symm.trans (by kernel_rfl : _ = false)) (by simp)
    · cases is_fn hf Tryz.func443; exact .of lays443 (by kernel_rfl) Tryz.func443 (by kernel_rfl) (by kernel_rfl) (by kernel_rfl) hpar
    · cases is_fn hf Tryz.func79; exact absurd (hn.symm.trans (by kernel_rfl : _ = false)) (by simp)
    · cases is_fn hf Tryz.func80; exact absurd (hn.symm.trans (by kernel_rfl : _ = false)) (by simp)
    · cases is_fn hf Tryz.func115; exact absurd (hn.symm.trans (by kernel_rfl : _ = false)) (by simp)
    · cases is_fn hf Tryz.func129; exact absurd (hn.symm.trans (by kernel_rfl : _ = false)) (by simp)
  prim f fn p hp hf hb hpr := by
    have bad : ∀ {gn : Func}, fn = gn → gn.body.isSome = true → False := by
      rintro gn rfl hs; rw [hb] at hs; cases hs
    rcases pr_mem hp with rfl | rfl | rfl | rfl | rfl | rfl | rfl
    · cases is_fn hf Tryz.func412
      have : p = .noEscape := Option.some.inj (hpr.symm.trans (by kernel_rfl))
      subst this
      exact .noEscape Tryz.func412 (by kernel_rfl) (by kernel_rfl) (by kernel_rfl) (by kernel_rfl)
    · cases is_fn hf Tryz.func424
      have : p = .indexByte := Option.some.inj (hpr.symm.trans (by kernel_rfl))
      subst this
      exact .indexByte Tryz.func424 (by kernel_rfl) (by kernel_rfl) (by kernel_rfl) (by kernel_rfl)
    · exact (bad (is_fn hf Tryz.func443) (by kernel_rfl)).elim
    · exact (bad (is_fn hf Tryz.func79) (by kernel_rfl)).elim
    · exact (bad (is_fn hf Tryz.func80) (by kernel_rfl)).elim
    · exact (bad (is_fn hf Tryz.func115) (by kernel_rfl)).elim
    · exact (bad (is_fn hf Tryz.func129) (by kernel_rfl)).elim
theorem eOk : EOk Tryz.prog glT E where
  glob := rfl
  fn _f _fn' h := FT.all_get okAll h
  meth := rfl
  lib := libOk
end
end Go.Proofs.YtaadeimkgmccaaaGreatDoor
