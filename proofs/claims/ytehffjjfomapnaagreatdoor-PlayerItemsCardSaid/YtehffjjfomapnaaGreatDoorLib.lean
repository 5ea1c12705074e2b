/- The library's functions that stand as one operation are what they are taken for. -/
import Derived.Test.YtehffjjfomapnaaGreatDoorZE
import Derived.Shelf.Strconv.AtoiAll
import Derived.Shelf.Strconv.Itoa4
import Derived.Test.YtehffjjfomapnaaGreatDoorEnv
namespace Go.Proofs.YtehffjjfomapnaaGreatDoor
noncomputable section
open Go.Shelf
set_option maxRecDepth 100000
def ren262 : Ren := ⟨fun | 41 => 262 | n => n,fun | 22 => 130 | 23 => 137 | 4 => 4 | n => n,fun n => n⟩
theorem lays262 : SlLaysE0.n41 Tryz.prog ren262 where
  mixed := by kernel_rfl
  f41 := ⟨ "slices.Clone[[]foreman/api.Node,foreman/api.Node]",by kernel_rfl,Tryz.func262.trans (congrArg some (by kernel_rfl))⟩
  t4 := Tryz.underlying4
  a4 := Tryz.isAgg4
  z4 := Tryz.sizeOf4
  v4 := Tryz.zeroValue4
  t22 := Tryz.underlying130
  a22 := Tryz.isAgg130
  z22 := Tryz.sizeOf130
  v22 := Tryz.zeroValue130
def ren263 : Ren := ⟨fun | 41 => 263 | n => n,fun | 22 => 71 | 23 => 3 | 4 => 4 | n => n,fun n => n⟩
theorem lays263 : SlLaysE0.n41 Tryz.prog ren263 where
  mixed := by kernel_rfl
  f41 := ⟨ "slices.Clone[[]int,int]",by kernel_rfl,Tryz.func263.trans (congrArg some (by kernel_rfl))⟩
  t4 := Tryz.underlying4
  a4 := Tryz.isAgg4
  z4 := Tryz.sizeOf4
  v4 := Tryz.zeroValue4
  t22 := Tryz.underlying71
  a22 := Tryz.isAgg71
  z22 := Tryz.sizeOf71
  v22 := Tryz.zeroValue71
def ren219 : Ren := ⟨fun | 41 => 219 | n => n,fun | 22 => 46 | 23 => 5 | 4 => 4 | n => n,fun n => n⟩
theorem lays219 : SlLaysE0.n41 Tryz.prog ren219 where
  mixed := by kernel_rfl
  f41 := ⟨ "slices.Clone[[]byte,byte]",by kernel_rfl,Tryz.func219.trans (congrArg some (by kernel_rfl))⟩
  t4 := Tryz.underlying4
  a4 := Tryz.isAgg4
  z4 := Tryz.sizeOf4
  v4 := Tryz.zeroValue4
  t22 := Tryz.underlying46
  a22 := Tryz.isAgg46
  z22 := Tryz.sizeOf46
  v22 := Tryz.zeroValue46
def ren399 : Ren := ⟨fun | 41 => 399 | n => n,fun | 22 => 452 | 23 => 465 | 4 => 4 | n => n,fun n => n⟩
theorem lays399 : SlLaysE0.n41 Tryz.prog ren399 where
  mixed := by kernel_rfl
  f41 := ⟨ "slices.Clone[[]foreman/graph.vertex,foreman/graph.vertex]",by kernel_rfl,Tryz.func399.trans (congrArg some (by kernel_rfl))⟩
  t4 := Tryz.underlying4
  a4 := Tryz.isAgg4
  z4 := Tryz.sizeOf4
  v4 := Tryz.zeroValue4
  t22 := Tryz.underlying452
  a22 := Tryz.isAgg452
  z22 := Tryz.sizeOf452
  v22 := Tryz.zeroValue452
def ren522 : Ren := ⟨fun | 21 => 522 | 27 => 532 | 28 => 533 | 35 => 544 | 39 => 550 | n => n,fun | 22 => 71 | 3 => 3 | 4 => 4 | 0 => 0 | n => n,fun n => n⟩
theorem lays522 : Lays2.n21 Tryz.prog ren522 where
  mixed := by kernel_rfl
  f21 := Tryz.func522.trans (congrArg some (by kernel_rfl))
  f27 := Tryz.func532.trans (congrArg some (by kernel_rfl))
  f28 := Tryz.func533.trans (congrArg some (by kernel_rfl))
  f35 := Tryz.func544.trans (congrArg some (by kernel_rfl))
  f39 := Tryz.func550.trans (congrArg some (by kernel_rfl))
  t0 := Tryz.underlying0
  a0 := Tryz.isAgg0
  z0 := Tryz.sizeOf0
  v0 := Tryz.zeroValue0
  t3 := Tryz.underlying3
  a3 := Tryz.isAgg3
  z3 := Tryz.sizeOf3
  v3 := Tryz.zeroValue3
  t4 := Tryz.underlying4
  a4 := Tryz.isAgg4
  z4 := Tryz.sizeOf4
  v4 := Tryz.zeroValue4
  t22 := Tryz.underlying71
  a22 := Tryz.isAgg71
  z22 := Tryz.sizeOf71
  v22 := Tryz.zeroValue71
  i3 := by kernel_rfl
def ren172 : Ren := ⟨fun | 241 => 172 | 277 => 231 | n => n,fun | 37 => 46 | 70 => 45 | 72 => 48 | 5 => 5 | 3 => 3 | 0 => 0 | n => n,fun n => n⟩
theorem lays172 : Lays.n241 Tryz.prog ren172 where
  mixed := by kernel_rfl
  f241 := Tryz.func172.trans (congrArg some (by kernel_rfl))
  f277 := Tryz.func231.trans (congrArg some (by kernel_rfl))
  t0 := Tryz.underlying0
  a0 := Tryz.isAgg0
  z0 := Tryz.sizeOf0
  v0 := Tryz.zeroValue0
  t3 := Tryz.underlying3
  a3 := Tryz.isAgg3
  z3 := Tryz.sizeOf3
  v3 := Tryz.zeroValue3
  t37 := Tryz.underlying46
  a37 := Tryz.isAgg46
  z37 := Tryz.sizeOf46
  v37 := Tryz.zeroValue46
  t70 := Tryz.underlying45
  a70 := Tryz.isAgg45
  z70 := Tryz.sizeOf45
  v70 := Tryz.zeroValue45
  t72 := Tryz.underlying48
  a72 := Tryz.isAgg48
  z72 := Tryz.sizeOf48
  v72 := Tryz.zeroValue48
theorem bytes172 : Builder.Extra Tryz.prog ren172 where
  sizeBuilder := by kernel_rfl
  liesBuilder := by kernel_rfl
  t5 := Tryz.underlying5
  a5 := Tryz.isAgg5
  z5 := Tryz.sizeOf5
  v5 := Tryz.zeroValue5
  infoByte := by kernel_rfl
  cellsByte := by kernel_rfl
  sizeByte := by kernel_rfl
  neB5 := by decide
def renL : Ren := ⟨fun | 172 => 32 | 244 => 60 | 245 => 61 | 247 => 98 | 279 => 99 | 280 => 100 | 281 => 101 | 282 => 102 | 287 => 149 | 316 => 150 | 171 => 17 | 205 => 151 | 321 => 201 | 322 => 202 | 243 => 35 | 246 => 65 | 283 => 106 | 284 => 107 | 285 => 108 | 286 => 109 | 129 => 154 | 317 => 153 | 318 => 155 | 319 => 156 | 320 => 157 | 337 => 203 | 338 => 204 | 173 => 80 | n => n,fun | 75 => 50 | 76 => 51 | 167 => 157 | 37 => 46 | 85 => 158 | 168 => 160 | 53 => 148 | 175 => 228 | 46 => 108 | 210 => 231 | 127 => 82 | 145 => 279 | 143 => 277 | 171 => 165 | 173 => 168 | 212 => 234 | 51 => 177 | 213 => 235 | 232 => 112 | 233 => 327 | 80 => 54 | n => n,fun | 15 => 1 | 16 => 2 | 17 => 3 | 18 => 6 | 19 => 7 | n => n⟩
theorem layslA : LaysC.n172 Tryz.prog renL := {
  mixed := by kernel_rfl
  f129 := Tryz.func154.trans (congrArg some (by kernel_rfl))
  f171 := Tryz.func17.trans (congrArg some (by kernel_rfl))
  f172 := Tryz.func32.trans (congrArg some (by kernel_rfl))
  f205 := Tryz.func151.trans (congrArg some (by kernel_rfl))
  f243 := Tryz.func35.trans (congrArg some (by kernel_rfl))
  f244 := Tryz.func60.trans (congrArg some (by kernel_rfl))
  f245 := Tryz.func61.trans (congrArg some (by kernel_rfl))
  f246 := Tryz.func65.trans (congrArg some (by kernel_rfl))
  f247 := Tryz.func98.trans (congrArg some (by kernel_rfl))
  f279 := Tryz.func99.trans (congrArg some (by kernel_rfl))
  f280 := Tryz.func100.trans (congrArg some (by kernel_rfl))
  f281 := Tryz.func101.trans (congrArg some (by kernel_rfl))
  f282 := Tryz.func102.trans (congrArg some (by kernel_rfl))
  f283 := Tryz.func106.trans (congrArg some (by kernel_rfl))
  f284 := Tryz.func107.trans (congrArg some (by kernel_rfl))
  f285 := Tryz.func108.trans (congrArg some (by kernel_rfl))
  f286 := Tryz.func109.trans (congrArg some (by kernel_rfl))
  f287 := Tryz.func149.trans (congrArg some (by kernel_rfl))
  f316 := Tryz.func150.trans (congrArg some (by kernel_rfl))
  f317 := Tryz.func153.trans (congrArg some (by kernel_rfl))
  f318 := Tryz.func155.trans (congrArg some (by kernel_rfl))
  f319 := Tryz.func156.trans (congrArg some (by kernel_rfl))
  f320 := Tryz.func157.trans (congrArg some (by kernel_rfl))
  f321 := Tryz.func201.trans (congrArg some (by kernel_rfl))
  f322 := Tryz.func202.trans (congrArg some (by kernel_rfl))
  f337 := Tryz.func203.trans (congrArg some (by kernel_rfl))
  f338 := Tryz.func204.trans (congrArg some (by kernel_rfl))
  t0 := Tryz.underlying0
  a0 := Tryz.isAgg0
  z0 := Tryz.sizeOf0
  v0 := Tryz.zeroValue0
  t2 := Tryz.underlying2
  a2 := Tryz.isAgg2
  z2 := Tryz.sizeOf2
  v2 := Tryz.zeroValue2
  t3 := Tryz.underlying3
  a3 := Tryz.isAgg3
  z3 := Tryz.sizeOf3
  v3 := Tryz.zeroValue3
  t4 := Tryz.underlying4
  a4 := Tryz.isAgg4
  z4 := Tryz.sizeOf4
  v4 := Tryz.zeroValue4
  t5 := Tryz.underlying5
  a5 := Tryz.isAgg5
  z5 := Tryz.sizeOf5
  v5 := Tryz.zeroValue5
  t9 := Tryz.underlying9
  a9 := Tryz.isAgg9
  z9 := Tryz.sizeOf9
  v9 := Tryz.zeroValue9
  t20 := Tryz.underlying20
  a20 := Tryz.isAgg20
  z20 := Tryz.sizeOf20
  v20 := Tryz.zeroValue20
  t21 := Tryz.underlying21
  a21 := Tryz.isAgg21
  z21 := Tryz.sizeOf21
  v21 := Tryz.zeroValue21
  t37 := Tryz.underlying46
  a37 := Tryz.isAgg46
  z37 := Tryz.sizeOf46
  v37 := Tryz.zeroValue46
  t46 := Tryz.underlying108
  a46 := Tryz.isAgg108
  z46 := Tryz.sizeOf108
  v46 := Tryz.zeroValue108
  t51 := Tryz.underlying177
  a51 := Tryz.isAgg177
  z51 := Tryz.sizeOf177
  v51 := Tryz.zeroValue177
  t53 := Tryz.underlying148
  a53 := Tryz.isAgg148
  z53 := Tryz.sizeOf148
  v53 := Tryz.zeroValue148
  t75 := Tryz.underlying50
  a75 := Tryz.isAgg50
  z75 := Tryz.sizeOf50
  v75 := Tryz.zeroValue50
  t76 := Tryz.underlying51
  a76 := Tryz.isAgg51
  z76 := Tryz.sizeOf51
  v76 := Tryz.zeroValue51
  t85 := Tryz.underlying158
  a85 := Tryz.isAgg158
  z85 := Tryz.sizeOf158
  v85 := Tryz.zeroValue158
  t127 := Tryz.underlying82
  a127 := Tryz.isAgg82
  z127 := Tryz.sizeOf82
  v127 := Tryz.zeroValue82
  t143 := Tryz.underlying277
  a143 := Tryz.isAgg277
  z143 := Tryz.sizeOf277
  v143 := Tryz.zeroValue277
  t145 := Tryz.underlying279
  a145 := Tryz.isAgg279
  z145 := Tryz.sizeOf279
  v145 := Tryz.zeroValue279
  t167 := Tryz.underlying157
  a167 := Tryz.isAgg157
  z167 := Tryz.sizeOf157
  v167 := Tryz.zeroValue157
  t168 := Tryz.underlying160
  a168 := Tryz.isAgg160
  z168 := Tryz.sizeOf160
  v168 := Tryz.zeroValue160
  t171 := Tryz.underlying165
  a171 := Tryz.isAgg165
  z171 := Tryz.sizeOf165
  v171 := Tryz.zeroValue165
  t173 := Tryz.underlying168
  a173 := Tryz.isAgg168
  z173 := Tryz.sizeOf168
  v173 := Tryz.zeroValue168
  t175 := Tryz.underlying228
  a175 := Tryz.isAgg228
  z175 := Tryz.sizeOf228
  v175 := Tryz.zeroValue228
  t210 := Tryz.underlying231
  a210 := Tryz.isAgg231
  z210 := Tryz.sizeOf231
  v210 := Tryz.zeroValue231
  t212 := Tryz.underlying234
  a212 := Tryz.isAgg234
  z212 := Tryz.sizeOf234
  v212 := Tryz.zeroValue234
  t213 := Tryz.underlying235
  a213 := Tryz.isAgg235
  z213 := Tryz.sizeOf235
  t232 := Tryz.underlying112
  a232 := Tryz.isAgg112
  z232 := Tryz.sizeOf112
  v232 := Tryz.zeroValue112
  t233 := Tryz.underlying327
  a233 := Tryz.isAgg327
  z233 := Tryz.sizeOf327
  v233 := Tryz.zeroValue327
  g15 := by kernel_rfl
  g16 := by kernel_rfl
  g17 := by kernel_rfl
  g18 := by kernel_rfl
  g19 := by kernel_rfl
  t80 := Tryz.underlying54
  a80 := Tryz.isAgg54
  z80 := Tryz.sizeOf54
  v80 := Tryz.zeroValue54
  i0 := by kernel_rfl
  i2 := by kernel_rfl
  i3 := by kernel_rfl
  i4 := by kernel_rfl
  i5 := by kernel_rfl
  i9 := by kernel_rfl
  i20 := by kernel_rfl
  i21 := by kernel_rfl
  i37 := by kernel_rfl
  i46 := by kernel_rfl
  i51 := by kernel_rfl
  i53 := by kernel_rfl
  i75 := by kernel_rfl
  i76 := by kernel_rfl
  i80 := by kernel_rfl
  i85 := by kernel_rfl
  i127 := by kernel_rfl
  i143 := by kernel_rfl
  i145 := by kernel_rfl
  i167 := by kernel_rfl
  i168 := by kernel_rfl
  i171 := by kernel_rfl
  i173 := by kernel_rfl
  i175 := by kernel_rfl
  i210 := by kernel_rfl
  i212 := by kernel_rfl
  i232 := by kernel_rfl
  i233 := by kernel_rfl
  m15 := by kernel_rfl
  m16 := by kernel_rfl
  m17 := by kernel_rfl
  m18 := by kernel_rfl
  m19 := by kernel_rfl
  c0 := by kernel_rfl
  c2 := by kernel_rfl
  c3 := by kernel_rfl
  c4 := by kernel_rfl
  c5 := by kernel_rfl
  c9 := by kernel_rfl
  c20 := by kernel_rfl
  c21 := by kernel_rfl
  c37 := by kernel_rfl
  c46 := by kernel_rfl
  c51 := by kernel_rfl
  c53 := by kernel_rfl
  c75 := by kernel_rfl
  c76 := by kernel_rfl
  c80 := by kernel_rfl
  c85 := by kernel_rfl
  c127 := by kernel_rfl
  c143 := by kernel_rfl
  c145 := by kernel_rfl
  c167 := by kernel_rfl
  c168 := by kernel_rfl
  c171 := by kernel_rfl
  c173 := by kernel_rfl
  c175 := by kernel_rfl
  c210 := by kernel_rfl
  c212 := by kernel_rfl
  c213 := by kernel_rfl
  c232 := by kernel_rfl
  c233 := by kernel_rfl
  }
theorem layslB : LaysM.n171 Tryz.prog renL := { layslA with
  }
theorem layslC : LaysM.n173 Tryz.prog renL := { layslA with
  f173 := Tryz.func80.trans (congrArg some (by kernel_rfl))
  }
theorem enters {f : FuncId} {fn : Func} (hf : Tryz.prog.funcs[f]? = some fn) (hb : fn.body.isSome = true) (hn : (fn.name == "runtime.NumGoroutine") = false) : Abs.Enters Tryz.prog f := by
  obtain ⟨c,hc⟩ := Option.isSome_iff_exists.1 hb
  exact ⟨fn,c,hf,hc,by simpa using hn⟩
open Go.Abs
theorem pr_mem {f : Nat} (h : E.pr f = true) : f = 64 ∨ f = 117 ∨ f = 17 ∨ f = 80 ∨ f = 32 ∨ f = 105 ∨ f = 172 ∨ f = 522 ∨ f = 262 ∨ f = 263 ∨ f = 219 ∨ f = 399 := by
  have h : prT f = true := h
  simp only [prT,Bool.or_eq_true,Nat.beq_eq] at h
  omega
theorem is_fn {f : Nat} {fn gn : Func} (h : Tryz.prog.funcs[f]? = some fn) (k : Tryz.prog.funcs[f]? = some gn) : fn = gn := Option.some.inj (h.symm.trans k)
theorem libOk : LibOk Tryz.prog E where
  clone f fn e hp hf hn hpar := by
    rcases pr_mem hp with rfl | rfl | rfl | rfl | rfl | rfl | rfl | rfl | rfl | rfl | rfl | rfl
    · cases is_fn hf Tryz.func64; exact absurd (hn.symm.trans (by kernel_rfl : _ = false)) (by simp)
    · cases is_fn hf Tryz.func117; exact absurd (hn.symm.trans (by kernel_rfl : _ = false)) (by simp)
    · cases is_fn hf Tryz.func17; exact absurd (hn.symm.trans (by kernel_rfl : _ = false)) (by simp)
    · cases is_fn hf Tryz.func80; exact absurd (hn.symm.trans (by kernel_rfl : _ = false)) (by simp)
    · cases is_fn hf Tryz.func32; exact absurd (hn.symm.trans (by kernel_rfl : _ = false)) (by simp)
    · cases is_fn hf Tryz.func105; exact absurd (hn.symm.trans (by kernel_rfl : _ = false)) (by simp)
    · cases is_fn hf Tryz.func172; exact absurd (hn.symm.trans (by kernel_rfl : _ = false)) (by simp)
    · cases is_fn hf Tryz.func522; exact absurd (hn.symm.trans (by kernel_rfl : _ = false)) (by simp)
    · cases is_fn hf Tryz.func262; exact .of lays262 (by kernel_rfl) Tryz.func262 (by kernel_rfl) (by kernel_rfl) (by kernel_rfl) hpar
    · cases is_fn hf Tryz.func263; exact .of lays263 (by kernel_rfl) Tryz.func263 (by kernel_rfl) (by kernel_rfl) (by kernel_rfl) hpar
    · cases is_fn hf Tryz.func219; exact .of lays219 (by kernel_rfl) Tryz.func219 (by kernel_rfl) (by kernel_rfl) (by kernel_rfl) hpar
    · cases is_fn hf Tryz.func399; exact .of lays399 (by kernel_rfl) Tryz.func399 (by kernel_rfl) (by kernel_rfl) (by kernel_rfl) hpar
  insrt f fn e hp hf hn hpar := by
    rcases pr_mem hp with rfl | rfl | rfl | rfl | rfl | rfl | rfl | rfl | rfl | rfl | rfl | rfl
    · cases is_fn hf Tryz.func64; exact absurd (hn.symm.trans (by kernel_rfl : _ = false)) (by simp)
    · cases is_fn hf Tryz.func117; exact absurd (hn.symm.trans (by kernel_rfl : _ = false)) (by simp)
    · cases is_fn hf Tryz.func17; exact absurd (hn.symm.trans (by kernel_rfl : _ = false)) (by simp)
    · cases is_fn hf Tryz.func80; exact absurd (hn.symm.trans (by kernel_rfl : _ = false)) (by simp)
    · cases is_fn hf Tryz.func32; exact absurd (hn.symm.trans (by kernel_rfl : _ = false)) (by simp)
    · cases is_fn hf Tryz.func105; exact absurd (hn.symm.trans (by kernel_rfl : _ = false)) (by simp)
    · cases is_fn hf Tryz.func172; exact absurd (hn.symm.trans (by kernel_rfl : _ = false)) (by simp)
    · cases is_fn hf Tryz.func522; exact .of lays522 (by kernel_rfl) Tryz.func522 (by kernel_rfl) (by kernel_rfl) (by kernel_rfl) hpar
    · cases is_fn hf Tryz.func262; exact absurd (hn.symm.trans (by kernel_rfl : _ = false)) (by simp)
    · cases is_fn hf Tryz.func263; exact absurd (hn.symm.trans (by kernel_rfl : _ = false)) (by simp)
    · cases is_fn hf Tryz.func219; exact absurd (hn.symm.trans (by kernel_rfl : _ = false)) (by simp)
    · cases is_fn hf Tryz.func399; exact absurd (hn.symm.trans (by kernel_rfl : _ = false)) (by simp)
  prim f fn p hp hf hb hpr := by
    have bad : ∀ {gn : Func},fn = gn → gn.body.isSome = true → False := by
      rintro gn rfl hs; rw [hb] at hs; cases hs
    rcases pr_mem hp with rfl | rfl | rfl | rfl | rfl | rfl | rfl | rfl | rfl | rfl | rfl | rfl
    · cases is_fn hf Tryz.func64
      have : p = .noEscape := Option.some.inj (hpr.symm.trans (by kernel_rfl))
      subst this
      exact .noEscape Tryz.func64 (by kernel_rfl) (by kernel_rfl) (by kernel_rfl) (by kernel_rfl)
    · cases is_fn hf Tryz.func117
      have : p = .indexByte := Option.some.inj (hpr.symm.trans (by kernel_rfl))
      subst this
      exact .indexByte Tryz.func117 (by kernel_rfl) (by kernel_rfl) (by kernel_rfl) (by kernel_rfl)
    · exact (bad (is_fn hf Tryz.func17) (by kernel_rfl)).elim
    · exact (bad (is_fn hf Tryz.func80) (by kernel_rfl)).elim
    · exact (bad (is_fn hf Tryz.func32) (by kernel_rfl)).elim
    · cases is_fn hf Tryz.func105
      have : p = .count := Option.some.inj (hpr.symm.trans (by kernel_rfl))
      subst this
      exact .count Tryz.func105 (by kernel_rfl) (by kernel_rfl) (by kernel_rfl) (by kernel_rfl)
    · exact (bad (is_fn hf Tryz.func172) (by kernel_rfl)).elim
    · exact (bad (is_fn hf Tryz.func522) (by kernel_rfl)).elim
    · exact (bad (is_fn hf Tryz.func262) (by kernel_rfl)).elim
    · exact (bad (is_fn hf Tryz.func263) (by kernel_rfl)).elim
    · exact (bad (is_fn hf Tryz.func219) (by kernel_rfl)).elim
    · exact (bad (is_fn hf Tryz.func399) (by kernel_rfl)).elim
  grow f fn bt fs eb hp hf hn h1 h2 h3 := by
    rcases pr_mem hp with rfl | rfl | rfl | rfl | rfl | rfl | rfl | rfl | rfl | rfl | rfl | rfl
    · cases is_fn hf Tryz.func64; exact absurd (hn.symm.trans (by kernel_rfl : _ = false)) (by simp)
    · cases is_fn hf Tryz.func117; exact absurd (hn.symm.trans (by kernel_rfl : _ = false)) (by simp)
    · cases is_fn hf Tryz.func17; exact absurd (hn.symm.trans (by kernel_rfl : _ = false)) (by simp)
    · cases is_fn hf Tryz.func80; exact absurd (hn.symm.trans (by kernel_rfl : _ = false)) (by simp)
    · cases is_fn hf Tryz.func32; exact absurd (hn.symm.trans (by kernel_rfl : _ = false)) (by simp)
    · cases is_fn hf Tryz.func105; exact absurd (hn.symm.trans (by kernel_rfl : _ = false)) (by simp)
    · cases is_fn hf Tryz.func172; exact .of lays172 bytes172 (by kernel_rfl) Tryz.func172 (by kernel_rfl) (by kernel_rfl) (by kernel_rfl) h1 h2 h3
    · cases is_fn hf Tryz.func522; exact absurd (hn.symm.trans (by kernel_rfl : _ = false)) (by simp)
    · cases is_fn hf Tryz.func262; exact absurd (hn.symm.trans (by kernel_rfl : _ = false)) (by simp)
    · cases is_fn hf Tryz.func263; exact absurd (hn.symm.trans (by kernel_rfl : _ = false)) (by simp)
    · cases is_fn hf Tryz.func219; exact absurd (hn.symm.trans (by kernel_rfl : _ = false)) (by simp)
    · cases is_fn hf Tryz.func399; exact absurd (hn.symm.trans (by kernel_rfl : _ = false)) (by simp)
  lib f fn k hp hf hn := by
    rcases pr_mem hp with rfl | rfl | rfl | rfl | rfl | rfl | rfl | rfl | rfl | rfl | rfl | rfl
    · cases is_fn hf Tryz.func64; exact absurd (hn.symm.trans (by kernel_rfl : _ = none)) (by simp)
    · cases is_fn hf Tryz.func117; exact absurd (hn.symm.trans (by kernel_rfl : _ = none)) (by simp)
    · cases is_fn hf Tryz.func17
      have : k = .itoa := Option.some.inj (hn.symm.trans (by kernel_rfl : _ = some LibK.itoa))
      subst this
      exact ⟨enters Tryz.func17 (by kernel_rfl) (by kernel_rfl),renL,layslB,rfl,by kernel_rfl⟩
    · cases is_fn hf Tryz.func80
      have : k = .fmtInt := Option.some.inj (hn.symm.trans (by kernel_rfl : _ = some LibK.fmtInt))
      subst this
      exact ⟨enters Tryz.func80 (by kernel_rfl) (by kernel_rfl),renL,layslC,rfl,by kernel_rfl⟩
    · cases is_fn hf Tryz.func32
      have : k = .atoi := Option.some.inj (hn.symm.trans (by kernel_rfl : _ = some LibK.atoi))
      subst this
      exact ⟨enters Tryz.func32 (by kernel_rfl) (by kernel_rfl),renL,layslA,rfl,rfl,⟨_,rfl⟩,⟨_,rfl⟩⟩
    · cases is_fn hf Tryz.func105; exact absurd (hn.symm.trans (by kernel_rfl : _ = none)) (by simp)
    · cases is_fn hf Tryz.func172; exact absurd (hn.symm.trans (by kernel_rfl : _ = none)) (by simp)
    · cases is_fn hf Tryz.func522; exact absurd (hn.symm.trans (by kernel_rfl : _ = none)) (by simp)
    · cases is_fn hf Tryz.func262; exact absurd (hn.symm.trans (by kernel_rfl : _ = none)) (by simp)
    · cases is_fn hf Tryz.func263; exact absurd (hn.symm.trans (by kernel_rfl : _ = none)) (by simp)
    · cases is_fn hf Tryz.func219; exact absurd (hn.symm.trans (by kernel_rfl : _ = none)) (by simp)
    · cases is_fn hf Tryz.func399; exact absurd (hn.symm.trans (by kernel_rfl : _ = none)) (by simp)
theorem eOk : EOk Tryz.prog glT E where
  glob := rfl
  fn f fn' h := FT.all_get okAll h
  meth := rfl
  lib := libOk
end
end Go.Proofs.YtehffjjfomapnaaGreatDoor
