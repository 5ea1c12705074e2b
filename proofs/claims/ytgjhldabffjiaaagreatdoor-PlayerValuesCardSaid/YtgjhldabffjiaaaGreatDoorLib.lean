/- The library's functions that stand as one operation are what they are taken for. -/
import Derived.Test.YtgjhldabffjiaaaGreatDoorZE
import Derived.Shelf.Strconv.AtoiAll
import Derived.Shelf.Strconv.Itoa4
import Derived.Shelf.Strconv.ToError
import Derived.Shelf.Strconv.ParseIntPublic10
import Derived.Test.YtgjhldabffjiaaaGreatDoorEnv
namespace Go.Proofs.YtgjhldabffjiaaaGreatDoor
noncomputable section
open Go.Shelf
set_option maxRecDepth 100000
def Uk:Ren:=⟨fun | 41=> 215 | n=> n,fun | 22=> 32 | 23=> 5 | 4=> 4 | n=> n,fun n=> n⟩
theorem QW:SlLaysE0.n41 Tryz.prog Uk where
 mixed:=by kernel_rfl
 f41:=⟨ "slices.Clone[[]byte,byte]",by kernel_rfl,Tryz.func215.trans (congrArg some (by kernel_rfl))⟩
 t4:=Tryz.underlying4
 a4:=Tryz.isAgg4
 z4:=Tryz.sizeOf4
 v4:=Tryz.zeroValue4
 t22:=Tryz.underlying32
 a22:=Tryz.isAgg32
 z22:=Tryz.sizeOf32
 v22:=Tryz.zeroValue32
def Ul:Ren:=⟨fun | 41=> 256 | n=> n,fun | 22=> 148 | 23=> 155 | 4=> 4 | n=> n,fun n=> n⟩
theorem QX:SlLaysE0.n41 Tryz.prog Ul where
 mixed:=by kernel_rfl
 f41:=⟨ "slices.Clone[[]foreman/api.Node,foreman/api.Node]",by kernel_rfl,Tryz.func256.trans (congrArg some (by kernel_rfl))⟩
 t4:=Tryz.underlying4
 a4:=Tryz.isAgg4
 z4:=Tryz.sizeOf4
 v4:=Tryz.zeroValue4
 t22:=Tryz.underlying148
 a22:=Tryz.isAgg148
 z22:=Tryz.sizeOf148
 v22:=Tryz.zeroValue148
def Um:Ren:=⟨fun | 41=> 257 | n=> n,fun | 22=> 71 | 23=> 3 | 4=> 4 | n=> n,fun n=> n⟩
theorem QY:SlLaysE0.n41 Tryz.prog Um where
 mixed:=by kernel_rfl
 f41:=⟨ "slices.Clone[[]int,int]",by kernel_rfl,Tryz.func257.trans (congrArg some (by kernel_rfl))⟩
 t4:=Tryz.underlying4
 a4:=Tryz.isAgg4
 z4:=Tryz.sizeOf4
 v4:=Tryz.zeroValue4
 t22:=Tryz.underlying71
 a22:=Tryz.isAgg71
 z22:=Tryz.sizeOf71
 v22:=Tryz.zeroValue71
def Un:Ren:=⟨fun | 41=> 394 | n=> n,fun | 22=> 450 | 23=> 463 | 4=> 4 | n=> n,fun n=> n⟩
theorem QZ:SlLaysE0.n41 Tryz.prog Un where
 mixed:=by kernel_rfl
 f41:=⟨ "slices.Clone[[]foreman/graph.vertex,foreman/graph.vertex]",by kernel_rfl,Tryz.func394.trans (congrArg some (by kernel_rfl))⟩
 t4:=Tryz.underlying4
 a4:=Tryz.isAgg4
 z4:=Tryz.sizeOf4
 v4:=Tryz.zeroValue4
 t22:=Tryz.underlying450
 a22:=Tryz.isAgg450
 z22:=Tryz.sizeOf450
 v22:=Tryz.zeroValue450
def Uo:Ren:=⟨fun | 21=> 518 | 27=> 528 | 28=> 529 | 35=> 540 | 39=> 546 | n=> n,fun | 22=> 71 | 3=> 3 | 4=> 4 | 0=> 0 | n=> n,fun n=> n⟩
theorem Q0:Lays2.n21 Tryz.prog Uo where
 mixed:=by kernel_rfl
 f21:=Tryz.func518.trans (congrArg some (by kernel_rfl))
 f27:=Tryz.func528.trans (congrArg some (by kernel_rfl))
 f28:=Tryz.func529.trans (congrArg some (by kernel_rfl))
 f35:=Tryz.func540.trans (congrArg some (by kernel_rfl))
 f39:=Tryz.func546.trans (congrArg some (by kernel_rfl))
 t0:=Tryz.underlying0
 a0:=Tryz.isAgg0
 z0:=Tryz.sizeOf0
 v0:=Tryz.zeroValue0
 t3:=Tryz.underlying3
 a3:=Tryz.isAgg3
 z3:=Tryz.sizeOf3
 v3:=Tryz.zeroValue3
 t4:=Tryz.underlying4
 a4:=Tryz.isAgg4
 z4:=Tryz.sizeOf4
 v4:=Tryz.zeroValue4
 t22:=Tryz.underlying71
 a22:=Tryz.isAgg71
 z22:=Tryz.sizeOf71
 v22:=Tryz.zeroValue71
 i3:=by kernel_rfl
def N9:Ren:=⟨fun | 241=> 170 | 277=> 227 | n=> n,fun | 37=> 32 | 70=> 48 | 72=> 50 | 5=> 5 | 3=> 3 | 0=> 0 | n=> n,fun n=> n⟩
theorem Q3:Lays.n241 Tryz.prog N9 where
 mixed:=by kernel_rfl
 f241:=Tryz.func170.trans (congrArg some (by kernel_rfl))
 f277:=Tryz.func227.trans (congrArg some (by kernel_rfl))
 t0:=Tryz.underlying0
 a0:=Tryz.isAgg0
 z0:=Tryz.sizeOf0
 v0:=Tryz.zeroValue0
 t3:=Tryz.underlying3
 a3:=Tryz.isAgg3
 z3:=Tryz.sizeOf3
 v3:=Tryz.zeroValue3
 t37:=Tryz.underlying32
 a37:=Tryz.isAgg32
 z37:=Tryz.sizeOf32
 v37:=Tryz.zeroValue32
 t70:=Tryz.underlying48
 a70:=Tryz.isAgg48
 z70:=Tryz.sizeOf48
 v70:=Tryz.zeroValue48
 t72:=Tryz.underlying50
 a72:=Tryz.isAgg50
 z72:=Tryz.sizeOf50
 v72:=Tryz.zeroValue50
theorem N_:Builder.Extra Tryz.prog N9 where
 sizeBuilder:=by kernel_rfl
 liesBuilder:=by kernel_rfl
 t5:=Tryz.underlying5
 a5:=Tryz.isAgg5
 z5:=Tryz.sizeOf5
 v5:=Tryz.zeroValue5
 infoByte:=by kernel_rfl
 cellsByte:=by kernel_rfl
 sizeByte:=by kernel_rfl
 neB5:=by decide
def DY:Ren:=⟨fun | 172=> 143 | 244=> 193 | 245=> 66 | 247=> 65 | 279=> 105 | 280=> 106 | 281=> 107 | 282=> 108 | 287=> 101 | 316=> 152 | 171=> 73 | 205=> 153 | 321=> 148 | 322=> 149 | 243=> 120 | 246=> 68 | 283=> 110 | 284=> 111 | 285=> 112 | 286=> 113 | 129=> 155 | 317=> 154 | 318=> 156 | 319=> 157 | 320=> 158 | 337=> 201 | 338=> 202 | 173=> 33 | 174=> 31 | n=> n,fun | 75=> 84 | 76=> 87 | 167=> 179 | 37=> 32 | 168=> 180 | 53=> 114 | 175=> 115 | 46=> 92 | 210=> 236 | 127=> 93 | 145=> 284 | 143=> 282 | 171=> 185 | 173=> 188 | 212=> 240 | 51=> 241 | 213=> 242 | 232=> 129 | 233=> 329 | 80=> 52 | n=> n,fun | 15=> 0 | 16=> 1 | 17=> 2 | 18=> 6 | 19=> 7 | n=> n⟩
theorem CZ : LaysC.n172 Tryz.prog DY := {
 mixed:=by kernel_rfl
 f129:=Tryz.func155.trans (congrArg some (by kernel_rfl))
 f171:=Tryz.func73.trans (congrArg some (by kernel_rfl))
 f172:=Tryz.func143.trans (congrArg some (by kernel_rfl))
 f205:=Tryz.func153.trans (congrArg some (by kernel_rfl))
 f243:=Tryz.func120.trans (congrArg some (by kernel_rfl))
 f244:=Tryz.func193.trans (congrArg some (by kernel_rfl))
 f245:=Tryz.func66.trans (congrArg some (by kernel_rfl))
 f246:=Tryz.func68.trans (congrArg some (by kernel_rfl))
 f247:=Tryz.func65.trans (congrArg some (by kernel_rfl))
 f279:=Tryz.func105.trans (congrArg some (by kernel_rfl))
 f280:=Tryz.func106.trans (congrArg some (by kernel_rfl))
 f281:=Tryz.func107.trans (congrArg some (by kernel_rfl))
 f282:=Tryz.func108.trans (congrArg some (by kernel_rfl))
 f283:=Tryz.func110.trans (congrArg some (by kernel_rfl))
 f284:=Tryz.func111.trans (congrArg some (by kernel_rfl))
 f285:=Tryz.func112.trans (congrArg some (by kernel_rfl))
 f286:=Tryz.func113.trans (congrArg some (by kernel_rfl))
 f287:=Tryz.func101.trans (congrArg some (by kernel_rfl))
 f316:=Tryz.func152.trans (congrArg some (by kernel_rfl))
 f317:=Tryz.func154.trans (congrArg some (by kernel_rfl))
 f318:=Tryz.func156.trans (congrArg some (by kernel_rfl))
 f319:=Tryz.func157.trans (congrArg some (by kernel_rfl))
 f320:=Tryz.func158.trans (congrArg some (by kernel_rfl))
 f321:=Tryz.func148.trans (congrArg some (by kernel_rfl))
 f322:=Tryz.func149.trans (congrArg some (by kernel_rfl))
 f337:=Tryz.func201.trans (congrArg some (by kernel_rfl))
 f338:=Tryz.func202.trans (congrArg some (by kernel_rfl))
 t0:=Tryz.underlying0
 a0:=Tryz.isAgg0
 z0:=Tryz.sizeOf0
 v0:=Tryz.zeroValue0
 t2:=Tryz.underlying2
 a2:=Tryz.isAgg2
 z2:=Tryz.sizeOf2
 v2:=Tryz.zeroValue2
 t3:=Tryz.underlying3
 a3:=Tryz.isAgg3
 z3:=Tryz.sizeOf3
 v3:=Tryz.zeroValue3
 t4:=Tryz.underlying4
 a4:=Tryz.isAgg4
 z4:=Tryz.sizeOf4
 v4:=Tryz.zeroValue4
 t5:=Tryz.underlying5
 a5:=Tryz.isAgg5
 z5:=Tryz.sizeOf5
 v5:=Tryz.zeroValue5
 t9:=Tryz.underlying9
 a9:=Tryz.isAgg9
 z9:=Tryz.sizeOf9
 v9:=Tryz.zeroValue9
 t20:=Tryz.underlying20
 a20:=Tryz.isAgg20
 z20:=Tryz.sizeOf20
 v20:=Tryz.zeroValue20
 t21:=Tryz.underlying21
 a21:=Tryz.isAgg21
 z21:=Tryz.sizeOf21
 v21:=Tryz.zeroValue21
 t37:=Tryz.underlying32
 a37:=Tryz.isAgg32
 z37:=Tryz.sizeOf32
 v37:=Tryz.zeroValue32
 t46:=Tryz.underlying92
 a46:=Tryz.isAgg92
 z46:=Tryz.sizeOf92
 v46:=Tryz.zeroValue92
 t51:=Tryz.underlying241
 a51:=Tryz.isAgg241
 z51:=Tryz.sizeOf241
 v51:=Tryz.zeroValue241
 t53:=Tryz.underlying114
 a53:=Tryz.isAgg114
 z53:=Tryz.sizeOf114
 v53:=Tryz.zeroValue114
 t75:=Tryz.underlying84
 a75:=Tryz.isAgg84
 z75:=Tryz.sizeOf84
 v75:=Tryz.zeroValue84
 t76:=Tryz.underlying87
 a76:=Tryz.isAgg87
 z76:=Tryz.sizeOf87
 v76:=Tryz.zeroValue87
 t85:=Tryz.underlying85
 a85:=Tryz.isAgg85
 z85:=Tryz.sizeOf85
 v85:=Tryz.zeroValue85
 t127:=Tryz.underlying93
 a127:=Tryz.isAgg93
 z127:=Tryz.sizeOf93
 v127:=Tryz.zeroValue93
 t143:=Tryz.underlying282
 a143:=Tryz.isAgg282
 z143:=Tryz.sizeOf282
 v143:=Tryz.zeroValue282
 t145:=Tryz.underlying284
 a145:=Tryz.isAgg284
 z145:=Tryz.sizeOf284
 v145:=Tryz.zeroValue284
 t167:=Tryz.underlying179
 a167:=Tryz.isAgg179
 z167:=Tryz.sizeOf179
 v167:=Tryz.zeroValue179
 t168:=Tryz.underlying180
 a168:=Tryz.isAgg180
 z168:=Tryz.sizeOf180
 v168:=Tryz.zeroValue180
 t171:=Tryz.underlying185
 a171:=Tryz.isAgg185
 z171:=Tryz.sizeOf185
 v171:=Tryz.zeroValue185
 t173:=Tryz.underlying188
 a173:=Tryz.isAgg188
 z173:=Tryz.sizeOf188
 v173:=Tryz.zeroValue188
 t175:=Tryz.underlying115
 a175:=Tryz.isAgg115
 z175:=Tryz.sizeOf115
 v175:=Tryz.zeroValue115
 t210:=Tryz.underlying236
 a210:=Tryz.isAgg236
 z210:=Tryz.sizeOf236
 v210:=Tryz.zeroValue236
 t212:=Tryz.underlying240
 a212:=Tryz.isAgg240
 z212:=Tryz.sizeOf240
 v212:=Tryz.zeroValue240
 t213:=Tryz.underlying242
 a213:=Tryz.isAgg242
 z213:=Tryz.sizeOf242
 t232:=Tryz.underlying129
 a232:=Tryz.isAgg129
 z232:=Tryz.sizeOf129
 v232:=Tryz.zeroValue129
 t233:=Tryz.underlying329
 a233:=Tryz.isAgg329
 z233:=Tryz.sizeOf329
 v233:=Tryz.zeroValue329
 g15:=by kernel_rfl
 g16:=by kernel_rfl
 g17:=by kernel_rfl
 g18:=by kernel_rfl
 g19:=by kernel_rfl
 t80:=Tryz.underlying52
 a80:=Tryz.isAgg52
 z80:=Tryz.sizeOf52
 v80:=Tryz.zeroValue52
 i0:=by kernel_rfl
 i2:=by kernel_rfl
 i3:=by kernel_rfl
 i4:=by kernel_rfl
 i5:=by kernel_rfl
 i9:=by kernel_rfl
 i20:=by kernel_rfl
 i21:=by kernel_rfl
 i37:=by kernel_rfl
 i46:=by kernel_rfl
 i51:=by kernel_rfl
 i53:=by kernel_rfl
 i75:=by kernel_rfl
 i76:=by kernel_rfl
 i80:=by kernel_rfl
 i85:=by kernel_rfl
 i127:=by kernel_rfl
 i143:=by kernel_rfl
 i145:=by kernel_rfl
 i167:=by kernel_rfl
 i168:=by kernel_rfl
 i171:=by kernel_rfl
 i173:=by kernel_rfl
 i175:=by kernel_rfl
 i210:=by kernel_rfl
 i212:=by kernel_rfl
 i232:=by kernel_rfl
 i233:=by kernel_rfl
 m15:=by kernel_rfl
 m16:=by kernel_rfl
 m17:=by kernel_rfl
 m18:=by kernel_rfl
 m19:=by kernel_rfl
 c0:=by kernel_rfl
 c2:=by kernel_rfl
 c3:=by kernel_rfl
 c4:=by kernel_rfl
 c5:=by kernel_rfl
 c9:=by kernel_rfl
 c20:=by kernel_rfl
 c21:=by kernel_rfl
 c37:=by kernel_rfl
 c46:=by kernel_rfl
 c51:=by kernel_rfl
 c53:=by kernel_rfl
 c75:=by kernel_rfl
 c76:=by kernel_rfl
 c80:=by kernel_rfl
 c85:=by kernel_rfl
 c127:=by kernel_rfl
 c143:=by kernel_rfl
 c145:=by kernel_rfl
 c167:=by kernel_rfl
 c168:=by kernel_rfl
 c171:=by kernel_rfl
 c173:=by kernel_rfl
 c175:=by kernel_rfl
 c210:=by kernel_rfl
 c212:=by kernel_rfl
 c213:=by kernel_rfl
 c232:=by kernel_rfl
 c233:=by kernel_rfl
 }
theorem Up : LaysM.n171 Tryz.prog DY := { CZ with
 }
theorem Uq : LaysM.n173 Tryz.prog DY := { CZ with
 f173:=Tryz.func33.trans (congrArg some (by kernel_rfl))
 }
theorem Ur : LaysC.n174 Tryz.prog DY := { CZ with
 f174:=Tryz.func31.trans (congrArg some (by kernel_rfl))
 }
theorem Us : LaysC.n245 Tryz.prog DY := { CZ with
 }
theorem Ut : LaysM.n316 Tryz.prog DY := { CZ with
 }
theorem enters {f:FuncId} {fn:Func} (hf:Tryz.prog.funcs[f]? =some fn) (hb:fn.body.isSome=true) (hn:(fn.name== "runtime.NumGoroutine")=false):Abs.Enters Tryz.prog f:=by
 obtain ⟨c,hc⟩:=Option.isSome_iff_exists.1 hb
 exact ⟨fn,c,hf,hc,by simpa using hn⟩
open Go.Abs
theorem Es {f:Nat} (h:E.pr f=true):f=109∨f=228∨f=73∨f=33∨f=143∨f=31∨f=66∨f=152∨f=122∨f=170∨f=518∨f=215∨f=256∨f=257∨f=394:=by
 have h:prT f=true:=h
 simp only [prT,Bool.or_eq_true,Nat.beq_eq] at h
 omega
theorem kg {f:Nat} {fn gn:Func} (h:Tryz.prog.funcs[f]? =some fn) (k:Tryz.prog.funcs[f]? =some gn):fn=gn:=Option.some.inj (h.symm.trans k)
theorem aaC:Lb Tryz.prog E where
 clone f fn e hp hf hn hpar:=by
  rcases Es hp with rfl | rfl | rfl | rfl | rfl | rfl | rfl | rfl | rfl | rfl | rfl | rfl | rfl | rfl | rfl
  ·cases kg hf Tryz.func109; exact absurd (hn.symm.trans (by kernel_rfl:_=false)) (by simp)
  ·cases kg hf Tryz.func228; exact absurd (hn.symm.trans (by kernel_rfl:_=false)) (by simp)
  ·cases kg hf Tryz.func73; exact absurd (hn.symm.trans (by kernel_rfl:_=false)) (by simp)
  ·cases kg hf Tryz.func33; exact absurd (hn.symm.trans (by kernel_rfl:_=false)) (by simp)
  ·cases kg hf Tryz.func143; exact absurd (hn.symm.trans (by kernel_rfl:_=false)) (by simp)
  ·cases kg hf Tryz.func31; exact absurd (hn.symm.trans (by kernel_rfl:_=false)) (by simp)
  ·cases kg hf Tryz.func66; exact absurd (hn.symm.trans (by kernel_rfl:_=false)) (by simp)
  ·cases kg hf Tryz.func152; exact absurd (hn.symm.trans (by kernel_rfl:_=false)) (by simp)
  ·cases kg hf Tryz.func122; exact absurd (hn.symm.trans (by kernel_rfl:_=false)) (by simp)
  ·cases kg hf Tryz.func170; exact absurd (hn.symm.trans (by kernel_rfl:_=false)) (by simp)
  ·cases kg hf Tryz.func518; exact absurd (hn.symm.trans (by kernel_rfl:_=false)) (by simp)
  ·cases kg hf Tryz.func215; exact .of QW (by kernel_rfl) Tryz.func215 (by kernel_rfl) (by kernel_rfl) (by kernel_rfl) hpar
  ·cases kg hf Tryz.func256; exact .of QX (by kernel_rfl) Tryz.func256 (by kernel_rfl) (by kernel_rfl) (by kernel_rfl) hpar
  ·cases kg hf Tryz.func257; exact .of QY (by kernel_rfl) Tryz.func257 (by kernel_rfl) (by kernel_rfl) (by kernel_rfl) hpar
  ·cases kg hf Tryz.func394; exact .of QZ (by kernel_rfl) Tryz.func394 (by kernel_rfl) (by kernel_rfl) (by kernel_rfl) hpar
 Be f fn e hp hf hn hpar:=by
  rcases Es hp with rfl | rfl | rfl | rfl | rfl | rfl | rfl | rfl | rfl | rfl | rfl | rfl | rfl | rfl | rfl
  ·cases kg hf Tryz.func109; exact absurd (hn.symm.trans (by kernel_rfl:_=false)) (by simp)
  ·cases kg hf Tryz.func228; exact absurd (hn.symm.trans (by kernel_rfl:_=false)) (by simp)
  ·cases kg hf Tryz.func73; exact absurd (hn.symm.trans (by kernel_rfl:_=false)) (by simp)
  ·cases kg hf Tryz.func33; exact absurd (hn.symm.trans (by kernel_rfl:_=false)) (by simp)
  ·cases kg hf Tryz.func143; exact absurd (hn.symm.trans (by kernel_rfl:_=false)) (by simp)
  ·cases kg hf Tryz.func31; exact absurd (hn.symm.trans (by kernel_rfl:_=false)) (by simp)
  ·cases kg hf Tryz.func66; exact absurd (hn.symm.trans (by kernel_rfl:_=false)) (by simp)
  ·cases kg hf Tryz.func152; exact absurd (hn.symm.trans (by kernel_rfl:_=false)) (by simp)
  ·cases kg hf Tryz.func122; exact absurd (hn.symm.trans (by kernel_rfl:_=false)) (by simp)
  ·cases kg hf Tryz.func170; exact absurd (hn.symm.trans (by kernel_rfl:_=false)) (by simp)
  ·cases kg hf Tryz.func518; exact .of Q0 (by kernel_rfl) Tryz.func518 (by kernel_rfl) (by kernel_rfl) (by kernel_rfl) hpar
  ·cases kg hf Tryz.func215; exact absurd (hn.symm.trans (by kernel_rfl:_=false)) (by simp)
  ·cases kg hf Tryz.func256; exact absurd (hn.symm.trans (by kernel_rfl:_=false)) (by simp)
  ·cases kg hf Tryz.func257; exact absurd (hn.symm.trans (by kernel_rfl:_=false)) (by simp)
  ·cases kg hf Tryz.func394; exact absurd (hn.symm.trans (by kernel_rfl:_=false)) (by simp)
 Et f fn p hp hf hb hpr:=by
  have bad:∀{gn:Func},fn=gn→gn.body.isSome=true→False:=by
   rintro gn rfl hs; rw [hb] at hs; cases hs
  rcases Es hp with rfl | rfl | rfl | rfl | rfl | rfl | rfl | rfl | rfl | rfl | rfl | rfl | rfl | rfl | rfl
  ·cases kg hf Tryz.func109
   have:p= .vo:=Option.some.inj (hpr.symm.trans (by kernel_rfl))
   subst this
   exact .vo Tryz.func109 (by kernel_rfl) (by kernel_rfl) (by kernel_rfl) (by kernel_rfl)
  ·cases kg hf Tryz.func228
   have:p= .indexByte:=Option.some.inj (hpr.symm.trans (by kernel_rfl))
   subst this
   exact .indexByte Tryz.func228 (by kernel_rfl) (by kernel_rfl) (by kernel_rfl) (by kernel_rfl)
  ·exact (bad (kg hf Tryz.func73) (by kernel_rfl)).elim
  ·exact (bad (kg hf Tryz.func33) (by kernel_rfl)).elim
  ·exact (bad (kg hf Tryz.func143) (by kernel_rfl)).elim
  ·exact (bad (kg hf Tryz.func31) (by kernel_rfl)).elim
  ·exact (bad (kg hf Tryz.func66) (by kernel_rfl)).elim
  ·exact (bad (kg hf Tryz.func152) (by kernel_rfl)).elim
  ·cases kg hf Tryz.func122
   have:p= .count:=Option.some.inj (hpr.symm.trans (by kernel_rfl))
   subst this
   exact .count Tryz.func122 (by kernel_rfl) (by kernel_rfl) (by kernel_rfl) (by kernel_rfl)
  ·exact (bad (kg hf Tryz.func170) (by kernel_rfl)).elim
  ·exact (bad (kg hf Tryz.func518) (by kernel_rfl)).elim
  ·exact (bad (kg hf Tryz.func215) (by kernel_rfl)).elim
  ·exact (bad (kg hf Tryz.func256) (by kernel_rfl)).elim
  ·exact (bad (kg hf Tryz.func257) (by kernel_rfl)).elim
  ·exact (bad (kg hf Tryz.func394) (by kernel_rfl)).elim
 grow f fn bt fs eb hp hf hn h1 h2 h3:=by
  rcases Es hp with rfl | rfl | rfl | rfl | rfl | rfl | rfl | rfl | rfl | rfl | rfl | rfl | rfl | rfl | rfl
  ·cases kg hf Tryz.func109; exact absurd (hn.symm.trans (by kernel_rfl:_=false)) (by simp)
  ·cases kg hf Tryz.func228; exact absurd (hn.symm.trans (by kernel_rfl:_=false)) (by simp)
  ·cases kg hf Tryz.func73; exact absurd (hn.symm.trans (by kernel_rfl:_=false)) (by simp)
  ·cases kg hf Tryz.func33; exact absurd (hn.symm.trans (by kernel_rfl:_=false)) (by simp)
  ·cases kg hf Tryz.func143; exact absurd (hn.symm.trans (by kernel_rfl:_=false)) (by simp)
  ·cases kg hf Tryz.func31; exact absurd (hn.symm.trans (by kernel_rfl:_=false)) (by simp)
  ·cases kg hf Tryz.func66; exact absurd (hn.symm.trans (by kernel_rfl:_=false)) (by simp)
  ·cases kg hf Tryz.func152; exact absurd (hn.symm.trans (by kernel_rfl:_=false)) (by simp)
  ·cases kg hf Tryz.func122; exact absurd (hn.symm.trans (by kernel_rfl:_=false)) (by simp)
  ·cases kg hf Tryz.func170; exact .of Q3 N_ (by kernel_rfl) Tryz.func170 (by kernel_rfl) (by kernel_rfl) (by kernel_rfl) h1 h2 h3
  ·cases kg hf Tryz.func518; exact absurd (hn.symm.trans (by kernel_rfl:_=false)) (by simp)
  ·cases kg hf Tryz.func215; exact absurd (hn.symm.trans (by kernel_rfl:_=false)) (by simp)
  ·cases kg hf Tryz.func256; exact absurd (hn.symm.trans (by kernel_rfl:_=false)) (by simp)
  ·cases kg hf Tryz.func257; exact absurd (hn.symm.trans (by kernel_rfl:_=false)) (by simp)
  ·cases kg hf Tryz.func394; exact absurd (hn.symm.trans (by kernel_rfl:_=false)) (by simp)
 lib f fn k hp hf hn:=by
  rcases Es hp with rfl | rfl | rfl | rfl | rfl | rfl | rfl | rfl | rfl | rfl | rfl | rfl | rfl | rfl | rfl
  ·cases kg hf Tryz.func109; exact absurd (hn.symm.trans (by kernel_rfl:_=none)) (by simp)
  ·cases kg hf Tryz.func228; exact absurd (hn.symm.trans (by kernel_rfl:_=none)) (by simp)
  ·cases kg hf Tryz.func73
   have:k= .itoa:=Option.some.inj (hn.symm.trans (by kernel_rfl:_=some C4.itoa))
   subst this
   exact ⟨enters Tryz.func73 (by kernel_rfl) (by kernel_rfl),DY,Up,rfl,by kernel_rfl⟩
  ·cases kg hf Tryz.func33
   have:k= .Bg:=Option.some.inj (hn.symm.trans (by kernel_rfl:_=some C4.Bg))
   subst this
   exact ⟨enters Tryz.func33 (by kernel_rfl) (by kernel_rfl),DY,Uq,rfl,by kernel_rfl⟩
  ·cases kg hf Tryz.func143
   have:k= .atoi:=Option.some.inj (hn.symm.trans (by kernel_rfl:_=some C4.atoi))
   subst this
   exact ⟨enters Tryz.func143 (by kernel_rfl) (by kernel_rfl),DY,CZ,rfl,rfl,⟨_,rfl⟩,⟨_,rfl⟩⟩
  ·cases kg hf Tryz.func31
   have:k= .wD:=Option.some.inj (hn.symm.trans (by kernel_rfl:_=some C4.wD))
   subst this
   exact ⟨enters Tryz.func31 (by kernel_rfl) (by kernel_rfl),DY,Ur,rfl,rfl,⟨_,rfl⟩,⟨_,rfl⟩⟩
  ·cases kg hf Tryz.func66
   have:k= .El:=Option.some.inj (hn.symm.trans (by kernel_rfl:_=some C4.El))
   subst this
   exact ⟨enters Tryz.func66 (by kernel_rfl) (by kernel_rfl),DY,Us,rfl,rfl,rfl,⟨_,rfl⟩,⟨_,rfl⟩⟩
  ·cases kg hf Tryz.func152
   have:k= .C5:=Option.some.inj (hn.symm.trans (by kernel_rfl:_=some C4.C5))
   subst this
   exact ⟨enters Tryz.func152 (by kernel_rfl) (by kernel_rfl),DY,Ut,rfl⟩
  ·cases kg hf Tryz.func122; exact absurd (hn.symm.trans (by kernel_rfl:_=none)) (by simp)
  ·cases kg hf Tryz.func170; exact absurd (hn.symm.trans (by kernel_rfl:_=none)) (by simp)
  ·cases kg hf Tryz.func518; exact absurd (hn.symm.trans (by kernel_rfl:_=none)) (by simp)
  ·cases kg hf Tryz.func215; exact absurd (hn.symm.trans (by kernel_rfl:_=none)) (by simp)
  ·cases kg hf Tryz.func256; exact absurd (hn.symm.trans (by kernel_rfl:_=none)) (by simp)
  ·cases kg hf Tryz.func257; exact absurd (hn.symm.trans (by kernel_rfl:_=none)) (by simp)
  ·cases kg hf Tryz.func394; exact absurd (hn.symm.trans (by kernel_rfl:_=none)) (by simp)
theorem eOk:EOk Tryz.prog glT E where
 kQ:=rfl
 fn f fn' h:=FT.Q4 aam h
 Fy:=rfl
 lib:=aaC
end
end Go.Proofs.YtgjhldabffjiaaaGreatDoor
