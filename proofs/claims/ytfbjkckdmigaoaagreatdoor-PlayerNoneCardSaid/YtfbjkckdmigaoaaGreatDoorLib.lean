/- The library's functions that stand as one operation are what they are taken for. -/
import Derived.Test.YtfbjkckdmigaoaaGreatDoorZE
import Derived.Test.YtfbjkckdmigaoaaGreatDoorAw
namespace Go.Proofs.YtfbjkckdmigaoaaGreatDoor
noncomputable section
open Go.Shelf
set_option maxRecDepth 100000
def ren166 : Ren := ⟨fun | 41 => 166 | n => n,fun | 22 => 34 | 23 => 111 | 4 => 4 | n => n,fun n => n⟩
theorem lays166 : SlLaysE0.n41 Tryz.prog ren166 where
  mixed := by kernel_rfl
  f41 := ⟨ "slices.Clone[[]foreman/api.Node,foreman/api.Node]",by kernel_rfl,Tryz.func166.trans (congrArg some (by kernel_rfl))⟩
  t4 := Tryz.underlying4
  a4 := Tryz.isAgg4
  z4 := Tryz.sizeOf4
  v4 := Tryz.zeroValue4
  t22 := Tryz.underlying34
  a22 := Tryz.isAgg34
  z22 := Tryz.sizeOf34
  v22 := Tryz.zeroValue34
def ren167 : Ren := ⟨fun | 41 => 167 | n => n,fun | 22 => 52 | 23 => 3 | 4 => 4 | n => n,fun n => n⟩
theorem lays167 : SlLaysE0.n41 Tryz.prog ren167 where
  mixed := by kernel_rfl
  f41 := ⟨ "slices.Clone[[]int,int]",by kernel_rfl,Tryz.func167.trans (congrArg some (by kernel_rfl))⟩
  t4 := Tryz.underlying4
  a4 := Tryz.isAgg4
  z4 := Tryz.sizeOf4
  v4 := Tryz.zeroValue4
  t22 := Tryz.underlying52
  a22 := Tryz.isAgg52
  z22 := Tryz.sizeOf52
  v22 := Tryz.zeroValue52
def ren222 : Ren := ⟨fun | 41 => 222 | n => n,fun | 22 => 64 | 23 => 5 | 4 => 4 | n => n,fun n => n⟩
theorem lays222 : SlLaysE0.n41 Tryz.prog ren222 where
  mixed := by kernel_rfl
  f41 := ⟨ "slices.Clone[[]byte,byte]",by kernel_rfl,Tryz.func222.trans (congrArg some (by kernel_rfl))⟩
  t4 := Tryz.underlying4
  a4 := Tryz.isAgg4
  z4 := Tryz.sizeOf4
  v4 := Tryz.zeroValue4
  t22 := Tryz.underlying64
  a22 := Tryz.isAgg64
  z22 := Tryz.sizeOf64
  v22 := Tryz.zeroValue64
def ren371 : Ren := ⟨fun | 41 => 371 | n => n,fun | 22 => 433 | 23 => 436 | 4 => 4 | n => n,fun n => n⟩
theorem lays371 : SlLaysE0.n41 Tryz.prog ren371 where
  mixed := by kernel_rfl
  f41 := ⟨ "slices.Clone[[]foreman/graph.vertex,foreman/graph.vertex]",by kernel_rfl,Tryz.func371.trans (congrArg some (by kernel_rfl))⟩
  t4 := Tryz.underlying4
  a4 := Tryz.isAgg4
  z4 := Tryz.sizeOf4
  v4 := Tryz.zeroValue4
  t22 := Tryz.underlying433
  a22 := Tryz.isAgg433
  z22 := Tryz.sizeOf433
  v22 := Tryz.zeroValue433
def ren523 : Ren := ⟨fun | 21 => 523 | 27 => 529 | 28 => 530 | 35 => 540 | 39 => 546 | n => n,fun | 22 => 52 | 3 => 3 | 4 => 4 | 0 => 0 | n => n,fun n => n⟩
theorem lays523 : Lays2.n21 Tryz.prog ren523 where
  mixed := by kernel_rfl
  f21 := Tryz.func523.trans (congrArg some (by kernel_rfl))
  f27 := Tryz.func529.trans (congrArg some (by kernel_rfl))
  f28 := Tryz.func530.trans (congrArg some (by kernel_rfl))
  f35 := Tryz.func540.trans (congrArg some (by kernel_rfl))
  f39 := Tryz.func546.trans (congrArg some (by kernel_rfl))
  t0 := Tryz.underlying0
  a0 := Tryz.isAgg0
  z0 := Tryz.sizeOf0
  v0 := Tryz.zeroValue0
  t3 := Tryz.underlying3
  a3 := Tryz.isAgg3
  z3 := Tryz.sizeOf3
  v3 := Tryz.zeroValue3
  t4 := Tryz.underlying4
  a4 := Tryz.isAgg4
  z4 := Tryz.sizeOf4
  v4 := Tryz.zeroValue4
  t22 := Tryz.underlying52
  a22 := Tryz.isAgg52
  z22 := Tryz.sizeOf52
  v22 := Tryz.zeroValue52
  i3 := by kernel_rfl
def ren128 : Ren := ⟨fun | 241 => 128 | 277 => 180 | n => n,fun | 37 => 64 | 70 => 63 | 72 => 66 | 5 => 5 | 3 => 3 | 0 => 0 | n => n,fun n => n⟩
theorem lays128 : Lays.n241 Tryz.prog ren128 where
  mixed := by kernel_rfl
  f241 := Tryz.func128.trans (congrArg some (by kernel_rfl))
  f277 := Tryz.func180.trans (congrArg some (by kernel_rfl))
  t0 := Tryz.underlying0
  a0 := Tryz.isAgg0
  z0 := Tryz.sizeOf0
  v0 := Tryz.zeroValue0
  t3 := Tryz.underlying3
  a3 := Tryz.isAgg3
  z3 := Tryz.sizeOf3
  v3 := Tryz.zeroValue3
  t37 := Tryz.underlying64
  a37 := Tryz.isAgg64
  z37 := Tryz.sizeOf64
  v37 := Tryz.zeroValue64
  t70 := Tryz.underlying63
  a70 := Tryz.isAgg63
  z70 := Tryz.sizeOf63
  v70 := Tryz.zeroValue63
  t72 := Tryz.underlying66
  a72 := Tryz.isAgg66
  z72 := Tryz.sizeOf66
  v72 := Tryz.zeroValue66
theorem bytes128 : Builder.Extra Tryz.prog ren128 where
  sizeBuilder := by kernel_rfl
  liesBuilder := by kernel_rfl
  t5 := Tryz.underlying5
  a5 := Tryz.isAgg5
  z5 := Tryz.sizeOf5
  v5 := Tryz.zeroValue5
  infoByte := by kernel_rfl
  cellsByte := by kernel_rfl
  sizeByte := by kernel_rfl
  neB5 := by decide
open Go.Abs
theorem pr_mem {f : Nat} (h : E.pr f = true) : f = 79 ∨ f = 126 ∨ f = 48 ∨ f = 128 ∨ f = 523 ∨ f = 166 ∨ f = 167 ∨ f = 222 ∨ f = 371 := by
  have h : prT f = true := h
  simp only [prT,Bool.or_eq_true,Nat.beq_eq] at h
  omega
theorem is_fn {f : Nat} {fn gn : Func} (h : Tryz.prog.funcs[f]? = some fn) (k : Tryz.prog.funcs[f]? = some gn) : fn = gn := Option.some.inj (h.symm.trans k)
theorem libOk : LibOk Tryz.prog E where
  clone f fn e hp hf hn hpar := by
    rcases pr_mem hp with rfl | rfl | rfl | rfl | rfl | rfl | rfl | rfl | rfl
    · cases is_fn hf Tryz.func79; exact absurd (hn.symm.trans (by kernel_rfl : _ = false)) (by simp)
    · cases is_fn hf Tryz.func126; exact absurd (hn.symm.trans (by kernel_rfl : _ = false)) (by simp)
    · cases is_fn hf Tryz.func48; exact absurd (hn.symm.trans (by kernel_rfl : _ = false)) (by simp)
    · cases is_fn hf Tryz.func128; exact absurd (hn.symm.trans (by kernel_rfl : _ = false)) (by simp)
    · cases is_fn hf Tryz.func523; exact absurd (hn.symm.trans (by kernel_rfl : _ = false)) (by simp)
    · cases is_fn hf Tryz.func166; exact .of lays166 (by kernel_rfl) Tryz.func166 (by kernel_rfl) (by kernel_rfl) (by kernel_rfl) hpar
    · cases is_fn hf Tryz.func167; exact .of lays167 (by kernel_rfl) Tryz.func167 (by kernel_rfl) (by kernel_rfl) (by kernel_rfl) hpar
    · cases is_fn hf Tryz.func222; exact .of lays222 (by kernel_rfl) Tryz.func222 (by kernel_rfl) (by kernel_rfl) (by kernel_rfl) hpar
    · cases is_fn hf Tryz.func371; exact .of lays371 (by kernel_rfl) Tryz.func371 (by kernel_rfl) (by kernel_rfl) (by kernel_rfl) hpar
  insrt f fn e hp hf hn hpar := by
    rcases pr_mem hp with rfl | rfl | rfl | rfl | rfl | rfl | rfl | rfl | rfl
    · cases is_fn hf Tryz.func79; exact absurd (hn.symm.trans (by kernel_rfl : _ = false)) (by simp)
    · cases is_fn hf Tryz.func126; exact absurd (hn.symm.trans (by kernel_rfl : _ = false)) (by simp)
    · cases is_fn hf Tryz.func48; exact absurd (hn.symm.trans (by kernel_rfl : _ = false)) (by simp)
    · cases is_fn hf Tryz.func128; exact absurd (hn.symm.trans (by kernel_rfl : _ = false)) (by simp)
    · cases is_fn hf Tryz.func523; exact .of lays523 (by kernel_rfl) Tryz.func523 (by kernel_rfl) (by kernel_rfl) (by kernel_rfl) hpar
    · cases is_fn hf Tryz.func166; exact absurd (hn.symm.trans (by kernel_rfl : _ = false)) (by simp)
    · cases is_fn hf Tryz.func167; exact absurd (hn.symm.trans (by kernel_rfl : _ = false)) (by simp)
    · cases is_fn hf Tryz.func222; exact absurd (hn.symm.trans (by kernel_rfl : _ = false)) (by simp)
    · cases is_fn hf Tryz.func371; exact absurd (hn.symm.trans (by kernel_rfl : _ = false)) (by simp)
  prim f fn p hp hf hb hpr := by
    have bad : ∀ {gn : Func},fn = gn → gn.body.isSome = true → False := by
      rintro gn rfl hs; rw [hb] at hs; cases hs
    rcases pr_mem hp with rfl | rfl | rfl | rfl | rfl | rfl | rfl | rfl | rfl
    · cases is_fn hf Tryz.func79
      have : p = .noEscape := Option.some.inj (hpr.symm.trans (by kernel_rfl))
      subst this
      exact .noEscape Tryz.func79 (by kernel_rfl) (by kernel_rfl) (by kernel_rfl) (by kernel_rfl)
    · cases is_fn hf Tryz.func126
      have : p = .indexByte := Option.some.inj (hpr.symm.trans (by kernel_rfl))
      subst this
      exact .indexByte Tryz.func126 (by kernel_rfl) (by kernel_rfl) (by kernel_rfl) (by kernel_rfl)
    · cases is_fn hf Tryz.func48
      have : p = .count := Option.some.inj (hpr.symm.trans (by kernel_rfl))
      subst this
      exact .count Tryz.func48 (by kernel_rfl) (by kernel_rfl) (by kernel_rfl) (by kernel_rfl)
    · exact (bad (is_fn hf Tryz.func128) (by kernel_rfl)).elim
    · exact (bad (is_fn hf Tryz.func523) (by kernel_rfl)).elim
    · exact (bad (is_fn hf Tryz.func166) (by kernel_rfl)).elim
    · exact (bad (is_fn hf Tryz.func167) (by kernel_rfl)).elim
    · exact (bad (is_fn hf Tryz.func222) (by kernel_rfl)).elim
    · exact (bad (is_fn hf Tryz.func371) (by kernel_rfl)).elim
  grow f fn bt fs eb hp hf hn h1 h2 h3 := by
    rcases pr_mem hp with rfl | rfl | rfl | rfl | rfl | rfl | rfl | rfl | rfl
    · cases is_fn hf Tryz.func79; exact absurd (hn.symm.trans (by kernel_rfl : _ = false)) (by simp)
    · cases is_fn hf Tryz.func126; exact absurd (hn.symm.trans (by kernel_rfl : _ = false)) (by simp)
    · cases is_fn hf Tryz.func48; exact absurd (hn.symm.trans (by kernel_rfl : _ = false)) (by simp)
    · cases is_fn hf Tryz.func128; exact .of lays128 bytes128 (by kernel_rfl) Tryz.func128 (by kernel_rfl) (by kernel_rfl) (by kernel_rfl) h1 h2 h3
    · cases is_fn hf Tryz.func523; exact absurd (hn.symm.trans (by kernel_rfl : _ = false)) (by simp)
    · cases is_fn hf Tryz.func166; exact absurd (hn.symm.trans (by kernel_rfl : _ = false)) (by simp)
    · cases is_fn hf Tryz.func167; exact absurd (hn.symm.trans (by kernel_rfl : _ = false)) (by simp)
    · cases is_fn hf Tryz.func222; exact absurd (hn.symm.trans (by kernel_rfl : _ = false)) (by simp)
    · cases is_fn hf Tryz.func371; exact absurd (hn.symm.trans (by kernel_rfl : _ = false)) (by simp)
theorem eOk : EOk Tryz.prog glT E where
  glob := rfl
  fn f fn' h := FT.all_get okAll h
  meth := rfl
  lib := libOk
end
end Go.Proofs.YtfbjkckdmigaoaaGreatDoor
