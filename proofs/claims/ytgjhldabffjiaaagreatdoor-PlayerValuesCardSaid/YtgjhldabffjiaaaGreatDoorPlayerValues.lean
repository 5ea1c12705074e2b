/- foremanlaw30.PlayerValues returns true for every value, text, byte and place, and they read afterwards as before. Conditions: none beyond the given card's (what the listed package-level variables hold, tied to the program's text). -/
import Derived.Test.YtgjhldabffjiaaaGreatDoorCards
import Derived.Test.YtgjhldabffjiaaaGreatDoorTieD
import Derived.Test.YtgjhldabffjiaaaGreatDoorAw
import Derived.Test.YtgjhldabffjiaaaGreatDoorFact
import Derived.Test.YtgjhldabffjiaaaGreatDoorLib
import Derived.Test.YtgjhldabffjiaaaGreatDoorShape
import Derived.LaidLaws
import Derived.ProofKit
import Derived.OpenShut
import Derived.Deep.DeepHandedRow
import Derived.Deep.DeepLaidRun
import Derived.Deep.DeepWitnessRowRef
import Derived.Lib.LaidTab
namespace Go.Proofs.YtgjhldabffjiaaaGreatDoor
noncomputable section
open Go Go.ChangeShapes Go.WideShapes Go.ChangeAt Go.RowKit Go.Abs
set_option maxRecDepth 100000

theorem own:ownKnob Tryz.prog.godebug=none:=by kernel_rfl
theorem mixed:Tryz.prog.follows .mixedOrders=true:=by kernel_rfl
theorem Oa:Tryz.prog.globalNamed "foreman/op.kinds" =some 8:=by kernel_rfl
theorem J5:(Tryz.prog.globals[8]?).map (·.type)=some 456:=by kernel_rfl
theorem Uu:Tryz.prog.underlying 456=some (.array 6 5):=by kernel_rfl
theorem Q5:Tryz.prog.cellsOf 456=6:=by kernel_rfl
theorem aaD:Tryz.prog.globalNamed "internal/strconv.uint64pow10" =some 2:=by kernel_rfl
theorem Ob:(Tryz.prog.globals[2]?).map (·.type)=some 240:=by kernel_rfl
theorem abQ:Tryz.prog.underlying 240=some (.array 20 114):=by kernel_rfl
theorem aaE:Tryz.prog.cellsOf 240=20:=by kernel_rfl
theorem abR:Tryz.prog.cellsOf 114=1:=by kernel_rfl
theorem abS:Tryz.prog.globalNamed "strconv.ErrSyntax" =some 0:=by kernel_rfl
theorem Oc:(Tryz.prog.globals[0]?).map (·.type)=some 84:=by kernel_rfl
theorem abT:Tryz.prog.globalNamed "strconv.ErrRange" =some 1:=by kernel_rfl
theorem Od:(Tryz.prog.globals[1]?).map (·.type)=some 84:=by kernel_rfl
theorem Sv:Tryz.prog.cellsOf 284=1:=by kernel_rfl
theorem star: "*" ++ "errors.errorString" = "*errors.errorString" :=by decide
theorem Sw (v:TypeId) (h:Tryz.prog.typeName? 3 v=some "*errors.errorString"):v=282:=
 typeName_ptr_named (nm:= "errors.errorString") (by rw [star]; kernel_rfl) (by kernel_rfl) (by decide) v (by rw [star]; exact h)

theorem F7:(Rows.playerValuesRow.laid.filter fun x=> x.2.handleName?.isSome)=[]:=by kernel_rfl
theorem AP {W:World} (h:laidMetH Tryz.prog Rows.playerValuesRow.laid W):laidMet Tryz.prog Rows.playerValuesRow.laid W:=by
 unfold laidMetH at h
 rw [F7] at h
 exact h

theorem abU {W:World} (h:laidMetH Tryz.prog Rows.playerValuesRow.laid W):Lib.TabIs Tryz.prog W "foreman/op.kinds" .u8 [0,3,4,29,12,4]:=
 Lib.tabIs_of_head Oa J5 Uu Tryz.underlying5 co5 Q5 (mD (mD (mD (mD (mD (mD (mD (AP h))))))))
theorem abV {W:World} (h:laidMetH Tryz.prog Rows.playerValuesRow.laid W):Lib.TabIs Tryz.prog W "internal/strconv.uint64pow10" .u64 ((List.range 20).map fun i=> ((10 ^ i:Nat):Int)):=
 Lib.tabIs_of_head aaD Ob abQ Tryz.underlying114 abR aaE (mD (mD (AP h)))
theorem aaF {W:World} (h:laidMetH Tryz.prog Rows.playerValuesRow.laid W):∀g i (hi:i < (glT g).length),GV W g i (glT g).length (glT g)[i]:=by
 intro g i hi
 by_cases h8:g=8
 ·subst h8
  have hi':i < 6:=hi
  have hc:=Oe (abU h) Oa i hi'
  have:i=0∨i=1∨i=2∨i=3∨i=4∨i=5:=by omega
  rcases this with rfl | rfl | rfl | rfl | rfl | rfl <;> exact hc
 by_cases h3:g=2
 ·subst h3
  have hi':i < 20:=hi
  have hc:=Oe (abV h) aaD i hi'
  have e:(glT 2)[i]= .i .u64 (((List.range 20).map fun i=> ((10 ^ i:Nat):Int)).getD i 0):=by
   show (Bl)[i]'hi=_
   simp [Bl,List.getD,hi']
  exact cast (congrArg (GV W 2 i 20) e.symm) hc
 by_cases h1:g=0
 ·subst h1
  have hi':i < 1:=hi
  obtain rfl:i=0:=by omega
  exact Lc abS Oc Tryz.underlying84 Sw Tryz.underlying282 Sv (mD (mD (mD (mD (mD (AP h))))))
 by_cases h2:g=1
 ·subst h2
  have hi':i < 1:=hi
  obtain rfl:i=0:=by omega
  exact Lc abT Od Tryz.underlying84 Sw Tryz.underlying282 Sv (mD (mD (mD (mD (mD (mD (AP h)))))))
 have b8:Nat.beq g 8=false:=by rw [←Bool.not_eq_true,Nat.beq_eq]; exact h8
 have b3:Nat.beq g 2=false:=by rw [←Bool.not_eq_true,Nat.beq_eq]; exact h3
 have b1:Nat.beq g 0=false:=by rw [←Bool.not_eq_true,Nat.beq_eq]; exact h1
 have b2:Nat.beq g 1=false:=by rw [←Bool.not_eq_true,Nat.beq_eq]; exact h2
 have:glT g=[]:=by unfold glT; rw [b8,b3,b1,b2]; rfl
 rw [this] at hi
 exact absurd hi (by simp)

theorem Q6 {W:World} {base:Nat} {v:Value} (h:Value.okWide Tryz.prog W .any base 9 v):∃b,v= .string b:=by
 cases v with
 |string b=> exact ⟨b,rfl⟩
 |_=> simp [Value.okWide,Cell.okWide,Cell.ok,Tryz.underlying9] at h
theorem J6 {W:World} {base:Nat} {v:Value} {fs:Array Field} {t:TypeId} (hu:Tryz.prog.underlying t=some (.struct fs)) (h:Value.okWide Tryz.prog W .any base t v):∃cs,v= .agg cs:=by
 unfold Value.okWide at h
 rw [hu] at h
 obtain ⟨cs,rfl,_⟩:=h
 exact ⟨cs,rfl⟩

theorem Ld {W:World} {base:Nat} {v:Value} {t:TypeId} {k:IntKind} (hu:Tryz.prog.underlying t=some (.int k)) (h:Value.okWide Tryz.prog W .any base t v):∃n,v= .int k n:=by
 cases v with
 |int k' n=> simp [Value.okWide,Cell.okWide,Cell.ok,hu] at h; obtain ⟨rfl,_⟩:=h; exact ⟨n,rfl⟩
 |_=> simp [Value.okWide,Cell.okWide,Cell.ok,hu] at h

theorem contract (H:Type) (enc:TypeId×Value→H) (W:World) (base:Nat) (args:Array Value) (ds gs:List (DataW H)) (before:List MemPlace)
  (hval:∀(j:Nat) t v,Tryz.f3.params[j]? =some t→args[j]? =some v→Value.okWide Tryz.prog W .any base t v)
  (hW:DataW.Whole enc Tryz.prog Tryz.f3.params.toList Rows.playerValuesSpec.vars false W args.toList ds gs before) (hL:laidMetH Tryz.prog Rows.playerValuesRow.laid W):
  Calls Tryz.prog 3 args W fun e W'=> ∃v,e= .returned v∧Rows.playerValuesSpec.post enc Tryz.prog Tryz.f3 false true false false W args v W':=by
 have hW':=hW
 obtain ⟨p,q,hA0,hV,rfl,hfz,hnd⟩:=hW
 have hA:DataW.TrodAll enc Tryz.prog W 0 (fun _=> true) true Tryz.f3.params.toList args.toList ds p:=hA0
 rw [Tryz.params3] at hA hval
 obtain ⟨v0,vs0,d0,ds0,p0,q0,hargs,rfl,rfl,h0,r0⟩:=trodAll_cons hA
 obtain ⟨v1,vs1,d1,ds1,p1,q1,rfl,rfl,rfl,h1,r1⟩:=trodAll_cons r0
 obtain ⟨v2,vs2,d2,ds2,p2,q2,rfl,rfl,rfl,h2,r2⟩:=trodAll_cons r1
 obtain ⟨v3,vs3,d3,ds3,p3,q3,rfl,rfl,rfl,h3,r3⟩:=trodAll_cons r2
 obtain ⟨rfl,rfl,rfl⟩:=trodAll_nil r3
 obtain rfl:args= #[v0,v1,v2,v3]:=by cases args; simp_all
 obtain ⟨cs0,rfl⟩:=J6 Tryz.underlying24 (hval 0 24 v0 rfl rfl)
 obtain ⟨b,rfl⟩:=Q6 (hval 1 9 v1 rfl rfl)
 obtain ⟨x2,rfl⟩:=Ld Tryz.underlying5 (hval 2 5 v2 rfl rfl)
 obtain ⟨x3,rfl⟩:=Ld Tryz.underlying25 (hval 3 25 v3 rfl rfl)
 obtain ⟨Sy,abW⟩:=Q7 closed (t:=24) (by simp) h0 (before:=(p0++(p1++(p2++(p3++ []))))) (fun x hx=> by simp [hx]) rfl
 obtain ⟨abX,Of⟩:=Eu closed (t:=9) (by simp) h1 (before:=(p0++(p1++(p2++(p3++ []))))) (fun x hx=> by simp [hx]) rfl
 obtain ⟨abY,Le⟩:=Eu closed (t:=5) (by simp) h2 (before:=(p0++(p1++(p2++(p3++ []))))) (fun x hx=> by simp [hx]) rfl
 obtain ⟨abZ,Og⟩:=Eu closed (t:=25) (by simp) h3 (before:=(p0++(p1++(p2++(p3++ []))))) (fun x hx=> by simp [hx]) rfl
 obtain ⟨v,hv,hlv⟩:=(ab0 abW).1 rfl
 obtain ⟨k,n,s,vs,vb,vcs,rfl,ex⟩:=J7 hv
 obtain ⟨tx,hm1⟩:=Oh Tryz.underlying9 abX
 obtain ⟨c0,hm2,hc0⟩:=Sz abY
 obtain ⟨c,hc⟩:=Oi hc0
 obtain ⟨a,hm3,ha⟩:=Uv abZ
 have Of:=Of _ hm1
 have Le:=Le _ hm2
 have Og:=Og _ hm3
 rw [ex] at Sy hv
 rw [hc] at Le
 have zC:=Mm (h:= .empty) (args:=[.d (.agg [.i .u8 k,.i .i64 n,.s s,.sl vb vs.length vcs]),.d (.s tx),.d (byteD c),.d (.i .u16 (.ofNat a))]) (k:=k) (n:=n) (s:=s) (l:=vs) (b:=vb) (cs:=vcs) (a:=a) (c:=c) (t:=tx) sF hv hlv ha rfl
 refine (J8 eOk mixed zC (before:=(p0++(p1++(p2++(p3++ []))))) (aaF hL) (args:= #[.agg cs0,.string b,.int .u8 x2,.int .u16 x3]) rfl (fun i hi=> ?_)).mono ?_
 ·have hi2:i < 4:=hi
  have:i=0∨i=1∨i=2∨i=3:=by omega
  rcases this with rfl | rfl | rfl | rfl
  ·exact Sy
  ·exact Of
  ·exact Le
  ·exact Og
 ·rintro e W' ⟨rfl,hk,hio⟩
  refine ⟨_,rfl,Mq (tb:=4) closed (fun t ht=> ?_) rfl rfl rfl rfl (by kernel_rfl) Tryz.underlying4 hW' hk hio⟩
  rw [Tryz.params3] at ht
  have:t=24∨t=9∨t=5∨t=25:=by simpa using ht
  rcases this with rfl | rfl | rfl | rfl <;> simp

mutual
def flat:DataW Unit→List Value
 | .lit (.int k n)=> [.int k n]
 | .agg l=> SA l
 |_=> []
def SA:List (DataW Unit)→List Value
 |[]=> []
 |d::r=> flat d++SA r
end
def lay (cs:List Value):Obj→Obj
 | .cells _ t frozen=> .cells cs.toArray t frozen
 |o=> o
abbrev ab1:ByteArray:={data:= #[105,110,118,97,108,105,100,32,115,121,110,116,97,120]}
abbrev ab2:ByteArray:={data:= #[118,97,108,117,101,32,111,117,116,32,111,102,32,114,97,110,103,101]}
def low:Nat:=(World.holding Tryz.prog default ⟨#[],#[],[]⟩).heap.size
def C6 (os:Os):World:=
 let w0:=World.holding Tryz.prog os ⟨#[.cells #[.string ab1] 284,.cells #[.string ab2] 284],#[],[]⟩
 {w0 with heap:=(((((((w0.heap.modify 8 (lay (flat Rows.laid_foreman_op_kinds))).modify 4 (lay (flat Rows.laid_unicode_utf8_first))).modify 5 (lay (flat Rows.laid_unicode_utf8_acceptRanges))).modify 0 (lay ([.iface 282 (.pointer (some ⟨low,0,none⟩))]))).modify 1 (lay ([.iface 282 (.pointer (some ⟨low+1,0,none⟩))]))).modify 2 (lay (flat Rows.laid_internal_strconv_uint64pow10))).modify 6 (lay (flat Rows.laid_math_bits_deBruijn32tab))).modify 7 (lay (flat Rows.laid_math_bits_deBruijn64tab))}
def arg0:Value:= .agg #[.int .u8 0,.int .i64 0,.string ⟨#[]⟩,.slice none 0 0]
def arg1:Value:= .string ⟨#[]⟩
def arg2:Value:= .int .u8 0
def arg3:Value:= .int .u16 0
theorem Oj (os:Os):laidMetH Tryz.prog Rows.playerValuesRow.laid ((C6 os).forCall (fun _ _=> 0) ⟨#[],#[arg0,arg1,arg2,arg3],[]⟩).memory:=by
 unfold laidMetH
 rw [F7]
 exact laidMet_of_run3 10 (by kernel_rfl) (by kernel_rfl) (by kernel_rfl)
theorem reads (os:Os) {H:Type} (enc:TypeId×Value→H):∃places,DataW.whole enc Tryz.prog ((C6 os).forCall (fun _ _=> 0) ⟨#[],#[arg0,arg1,arg2,arg3],[]⟩).memory Tryz.f3.params.toList Rows.playerValuesSpec.vars false #[arg0,arg1,arg2,arg3].toList 8=
  some ([.agg [.lit (.int .u8 0),.lit (.int .i64 0),.lit (.string []),.nil],.lit (.string []),.lit (.int .u8 0),.lit (.int .u16 0)],[],places):=
 ⟨[],by kernel_rfl⟩

theorem lifted (os:Os) (started:os.Started) (H:Type) (enc:TypeId×Value→H) (F:Stop.Interp):
    ReturnsInHanded {} Tryz.checked os 3 .any ((OpenSpec.ofChange Rows.playerValuesSpec).preRow enc Tryz.prog Tryz.f3 Rows.playerValuesRow.domain false Rows.playerValuesRow.laid) (((OpenSpec.ofChange Rows.playerValuesSpec).at F).post enc Tryz.prog Tryz.f3 false true false false):=by
  obtain ⟨places,hx⟩:=reads os enc
  refine returnsInHanded_of_row (C:=Tryz.checked) (s:=OpenSpec.ofChange Rows.playerValuesSpec) own started (by kernel_rfl) Tryz.func3
    (witness_row_atRef (enc := enc) (C := Tryz.checked) false (C6 os) #[arg0,arg1,arg2,arg3] rfl (by kernel_rfl) (by kernel_rfl) (by kernel_rfl)
      (OpenSpec.preRow_of_cond 8 hx (by kernel_rfl) (fun k hk=> by cases hk) (by kernel_rfl) (Oj os))) ?_
  intro W base args ds gs before hval hW _ _ _ hL _ _
  exact contract H enc W base args ds gs before hval hW hL

theorem Uw:Tryz.pinned.checked.prog.funcNamed Rows.playerValuesRow.func=some 3:=by kernel_rfl
theorem inst:Tryz.f3.isInstance Tryz.pinned.checked.prog Rows.playerValuesRow.origin Rows.playerValuesRow.targs:=of_decide_eq_true (by kernel_rfl)
theorem wraps:Tryz.f3.isWrapper Tryz.pinned.checked.prog Rows.playerValuesRow.wrapper Rows.playerValuesRow.mainSum:=by
 unfold Func.isWrapper; first | (rw [if_pos (by decide+kernel)]; kernel_rfl) | (rw [if_neg (by decide+kernel)]; exact ⟨rfl,rfl⟩)
theorem said:Rows.PlayerValuesSaid:=
 OpenClaim.holds_of_cond 3 Tryz.f3 rfl rfl rfl rfl rfl rfl rfl ⟨rfl,rfl,rfl,rfl,rfl⟩ rfl rfl rfl rfl rfl Uw Tryz.func3 facts inst wraps
  (fun os started H enc _ F=> by rw [OpenClaim.pre_eq_preRow]; exact lifted os started H enc F)

theorem plain (f:FuncId) (fn:Func) (hf:Tryz.pinned.checked.prog.funcNamed "foreman/foremanlaw30.PlayerValues" =some f) (hfn:Tryz.pinned.checked.prog.funcs[f]? =some fn):
  true=Tryz.pinned.checked.prog.looks []∧∀(j:Nat) t,fn.params[j]? =some t→Tryz.pinned.checked.prog.wantsStandIn t=false:=by
 obtain rfl:f=3:=Option.some.inj ((show Tryz.prog.funcNamed "foreman/foremanlaw30.PlayerValues" =some 3 by kernel_rfl).symm.trans hf) |>.symm
 obtain rfl:fn=Tryz.f3:=(Option.some.inj (Tryz.func3.symm.trans hfn)).symm
 refine ⟨by kernel_rfl,fun j t ht=> ?_⟩
 rw [Tryz.params3] at ht
 have:t=24∨t=9∨t=5∨t=25:=by simpa using Array.mem_of_getElem? ht
 rcases this with rfl | rfl | rfl | rfl
 ·exact (show Tryz.prog.wantsStandIn 24=false by kernel_rfl)
 ·exact (show Tryz.prog.wantsStandIn 9=false by kernel_rfl)
 ·exact (show Tryz.prog.wantsStandIn 5=false by kernel_rfl)
 ·exact (show Tryz.prog.wantsStandIn 25=false by kernel_rfl)

theorem mainIs:Tryz.pinned.checked.prog.mainIs=some (true,"ecd9024107529d13949b3557497474f1cf0096291a71ff192b86cae5219a07dc".toList):=by kernel_rfl
theorem Ux:Rows.playerValuesRow.wfByText (OpenSpec.ofChange Rows.playerValuesSpec)=true:=by kernel_rfl
theorem playerValues:Rows.PlayerValuesCardSaid:=
 Claim7.holds_tied_plain_at .later [] _ _ _ _ said (fun _ h=> by cases h) Ux (fun _ h=> by cases h) playerValues_row_tie rfl ⟨rfl,rfl⟩ mainIs rfl plain goes
#print axioms playerValues
end
end Go.Proofs.YtgjhldabffjiaaaGreatDoor
