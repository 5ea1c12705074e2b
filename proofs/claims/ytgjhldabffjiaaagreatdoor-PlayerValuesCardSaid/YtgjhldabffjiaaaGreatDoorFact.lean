/- The closed facts of the row, one by one. -/
import Derived.Test.YtgjhldabffjiaaaGreatDoorCards
import Derived.JoinedCond
import Derived.KernelRfl
namespace Go.Proofs.YtgjhldabffjiaaaGreatDoor
noncomputable section
open Go
set_option maxRecDepth 100000
theorem aan:(fun (_P:Program) (_f:FuncId) (_fn:Func) (s:ChangeSpec) (c:OpenClaim)=> (c.wf (OpenSpec.ofChange s):Bool)) Tryz.pinned.checked.prog 3 Tryz.f3 (OpenSpec.ofChange Rows.playerValuesSpec).bare Rows.playerValuesRow=true:=by kernel_rfl
theorem aao:(fun (P:Program) (_f:FuncId) (_fn:Func) (_s:ChangeSpec) (_c:OpenClaim)=> (laidOutB P:Bool)) Tryz.pinned.checked.prog 3 Tryz.f3 (OpenSpec.ofChange Rows.playerValuesSpec).bare Rows.playerValuesRow=true:=by kernel_rfl
theorem aap:(fun (P:Program) (_f:FuncId) (_fn:Func) (_s:ChangeSpec) (_c:OpenClaim)=> (mapsRowed P:Bool)) Tryz.pinned.checked.prog 3 Tryz.f3 (OpenSpec.ofChange Rows.playerValuesSpec).bare Rows.playerValuesRow=true:=by kernel_rfl
theorem aaq:(fun (P:Program) (_f:FuncId) (fn:Func) (_s:ChangeSpec) (_c:OpenClaim)=> (fn.params.all (P.readableRec ·):Bool)) Tryz.pinned.checked.prog 3 Tryz.f3 (OpenSpec.ofChange Rows.playerValuesSpec).bare Rows.playerValuesRow=true:=by kernel_rfl
theorem aar:(fun (P:Program) (_f:FuncId) (_fn:Func) (s:ChangeSpec) (c:OpenClaim)=> (namedTie P c.named s.vars:Bool)) Tryz.pinned.checked.prog 3 Tryz.f3 (OpenSpec.ofChange Rows.playerValuesSpec).bare Rows.playerValuesRow=true:=by kernel_rfl
theorem aas:(fun (_P:Program) (_f:FuncId) (_fn:Func) (_s:ChangeSpec) (c:OpenClaim)=> ((c.stops==[]):Bool)) Tryz.pinned.checked.prog 3 Tryz.f3 (OpenSpec.ofChange Rows.playerValuesSpec).bare Rows.playerValuesRow=true:=by kernel_rfl
theorem aat:(fun (P:Program) (_f:FuncId) (_fn:Func) (_s:ChangeSpec) (_c:OpenClaim)=> ((P.stops==[]):Bool)) Tryz.pinned.checked.prog 3 Tryz.f3 (OpenSpec.ofChange Rows.playerValuesSpec).bare Rows.playerValuesRow=true:=by kernel_rfl
theorem aau:(fun (_P:Program) (_f:FuncId) (_fn:Func) (_s:ChangeSpec) (c:OpenClaim)=> ((c.knobs==[]):Bool)) Tryz.pinned.checked.prog 3 Tryz.f3 (OpenSpec.ofChange Rows.playerValuesSpec).bare Rows.playerValuesRow=true:=by kernel_rfl
theorem aav:(fun (P:Program) (_f:FuncId) (_fn:Func) (_s:ChangeSpec) (_c:OpenClaim)=> ((P.stopKnobs==[]):Bool)) Tryz.pinned.checked.prog 3 Tryz.f3 (OpenSpec.ofChange Rows.playerValuesSpec).bare Rows.playerValuesRow=true:=by kernel_rfl
theorem aaw:(fun (P:Program) (f:FuncId) (_fn:Func) (_s:ChangeSpec) (c:OpenClaim)=> ((c.inPlace==P.inPlace f):Bool)) Tryz.pinned.checked.prog 3 Tryz.f3 (OpenSpec.ofChange Rows.playerValuesSpec).bare Rows.playerValuesRow=true:=by kernel_rfl
theorem TT:(fun (P:Program) (f:FuncId) (_fn:Func) (_s:ChangeSpec) (c:OpenClaim)=> ((c.unfollowed==P.unfollowed f):Bool)) Tryz.pinned.checked.prog 3 Tryz.f3 (OpenSpec.ofChange Rows.playerValuesSpec).bare Rows.playerValuesRow=true:=by kernel_rfl
theorem TU:(fun (P:Program) (f:FuncId) (_fn:Func) (_s:ChangeSpec) (c:OpenClaim)=> ((c.recurses==P.recurses f):Bool)) Tryz.pinned.checked.prog 3 Tryz.f3 (OpenSpec.ofChange Rows.playerValuesSpec).bare Rows.playerValuesRow=true:=by kernel_rfl
theorem TV:(fun (P:Program) (f:FuncId) (_fn:Func) (_s:ChangeSpec) (c:OpenClaim)=> ((c.named==P.varsNamed f):Bool)) Tryz.pinned.checked.prog 3 Tryz.f3 (OpenSpec.ofChange Rows.playerValuesSpec).bare Rows.playerValuesRow=true:=by kernel_rfl
theorem TW:(fun (P:Program) (_f:FuncId) (fn:Func) (s:ChangeSpec) (c:OpenClaim)=> ((c.maps==(fn.params.toList++s.plain.varTypes P).any (P.mapsRec ·)):Bool)) Tryz.pinned.checked.prog 3 Tryz.f3 (OpenSpec.ofChange Rows.playerValuesSpec).bare Rows.playerValuesRow=true:=by kernel_rfl
theorem TX:(fun (P:Program) (_f:FuncId) (fn:Func) (s:ChangeSpec) (c:OpenClaim)=> ((c.ifaces==(fn.params.toList++s.plain.varTypes P).any (P.ifacesRec ·)):Bool)) Tryz.pinned.checked.prog 3 Tryz.f3 (OpenSpec.ofChange Rows.playerValuesSpec).bare Rows.playerValuesRow=true:=by kernel_rfl
theorem TY:(fun (P:Program) (_f:FuncId) (fn:Func) (_s:ChangeSpec) (c:OpenClaim)=> ((c.mapsOut==P.mapsAmong fn.resultTypes.toList):Bool)) Tryz.pinned.checked.prog 3 Tryz.f3 (OpenSpec.ofChange Rows.playerValuesSpec).bare Rows.playerValuesRow=true:=by kernel_rfl
theorem TZ:(fun (P:Program) (_f:FuncId) (fn:Func) (s:ChangeSpec) (c:OpenClaim)=> ((c.loops==(fn.params.toList++s.plain.varTypes P).any (P.loopsFrom ·)):Bool)) Tryz.pinned.checked.prog 3 Tryz.f3 (OpenSpec.ofChange Rows.playerValuesSpec).bare Rows.playerValuesRow=true:=by kernel_rfl
theorem T4:(fun (P:Program) (_f:FuncId) (fn:Func) (s:ChangeSpec) (c:OpenClaim)=> ((c.wideKeys==(fn.params.toList++s.plain.varTypes P++fn.resultTypes.toList).any (P.wideKeysFrom ·)):Bool)) Tryz.pinned.checked.prog 3 Tryz.f3 (OpenSpec.ofChange Rows.playerValuesSpec).bare Rows.playerValuesRow=true:=by kernel_rfl
theorem T6:(fun (P:Program) (_f:FuncId) (_fn:Func) (s:ChangeSpec) (_c:OpenClaim)=> (s.vars.all (P.varReadable ·):Bool)) Tryz.pinned.checked.prog 3 Tryz.f3 (OpenSpec.ofChange Rows.playerValuesSpec).bare Rows.playerValuesRow=true:=by kernel_rfl
theorem T7:(fun (P:Program) (_f:FuncId) (fn:Func) (_s:ChangeSpec) (_c:OpenClaim)=> (fn.resultTypes.all (fun t=> P.readableRec t && decide (t < P.types.size)):Bool)) Tryz.pinned.checked.prog 3 Tryz.f3 (OpenSpec.ofChange Rows.playerValuesSpec).bare Rows.playerValuesRow=true:=by kernel_rfl
theorem T8:(fun (P:Program) (_f:FuncId) (fn:Func) (_s:ChangeSpec) (c:OpenClaim)=> ((c.ifacesOut==fn.resultTypes.toList.any (P.ifacesRec ·)):Bool)) Tryz.pinned.checked.prog 3 Tryz.f3 (OpenSpec.ofChange Rows.playerValuesSpec).bare Rows.playerValuesRow=true:=by kernel_rfl
theorem T9:(fun (P:Program) (_f:FuncId) (fn:Func) (_s:ChangeSpec) (c:OpenClaim)=> ((c.loopsOut==fn.resultTypes.toList.any (P.loopsFrom ·)):Bool)) Tryz.pinned.checked.prog 3 Tryz.f3 (OpenSpec.ofChange Rows.playerValuesSpec).bare Rows.playerValuesRow=true:=by kernel_rfl
theorem T_:(fun (P:Program) (_f:FuncId) (_fn:Func) (_s:ChangeSpec) (c:OpenClaim)=> ((c.plainKeys==P.plainKeys):Bool)) Tryz.pinned.checked.prog 3 Tryz.f3 (OpenSpec.ofChange Rows.playerValuesSpec).bare Rows.playerValuesRow=true:=by kernel_rfl
theorem Ua:(fun (_P:Program) (_f:FuncId) (_fn:Func) (_s:ChangeSpec) (c:OpenClaim)=> (c.shortTexts.isNone:Bool)) Tryz.pinned.checked.prog 3 Tryz.f3 (OpenSpec.ofChange Rows.playerValuesSpec).bare Rows.playerValuesRow=true:=by kernel_rfl
theorem Ub:(fun (P:Program) (_f:FuncId) (_fn:Func) (_s:ChangeSpec) (_c:OpenClaim)=> (P.stopsHeard:Bool)) Tryz.pinned.checked.prog 3 Tryz.f3 (OpenSpec.ofChange Rows.playerValuesSpec).bare Rows.playerValuesRow=true:=by kernel_rfl
theorem Uc:(fun (P:Program) (_f:FuncId) (_fn:Func) (_s:ChangeSpec) (_c:OpenClaim)=> (P.mayEnter:Bool)) Tryz.pinned.checked.prog 3 Tryz.f3 (OpenSpec.ofChange Rows.playerValuesSpec).bare Rows.playerValuesRow=true:=by kernel_rfl
theorem Ud:(fun (P:Program) (_f:FuncId) (_fn:Func) (_s:ChangeSpec) (c:OpenClaim)=> ((c.lifted==P.liftsFinal):Bool)) Tryz.pinned.checked.prog 3 Tryz.f3 (OpenSpec.ofChange Rows.playerValuesSpec).bare Rows.playerValuesRow=true:=by kernel_rfl
theorem Ue:(fun (P:Program) (_f:FuncId) (_fn:Func) (_s:ChangeSpec) (c:OpenClaim)=> ((P.make==some c.make):Bool)) Tryz.pinned.checked.prog 3 Tryz.f3 (OpenSpec.ofChange Rows.playerValuesSpec).bare Rows.playerValuesRow=true:=by kernel_rfl
theorem Uf:(fun (P:Program) (_f:FuncId) (fn:Func) (_s:ChangeSpec) (c:OpenClaim)=> ((c.kinds==(if c.domain.isEmpty then [] else fn.params.toList.map fun t=> match P.underlying t with | some (.int k)=> some k | _=> none)):Bool)) Tryz.pinned.checked.prog 3 Tryz.f3 (OpenSpec.ofChange Rows.playerValuesSpec).bare Rows.playerValuesRow=true:=by kernel_rfl
theorem Ug:(fun (_P:Program) (_f:FuncId) (_fn:Func) (_s:ChangeSpec) (c:OpenClaim)=> ((c.pinned==c.pinnedBy):Bool)) Tryz.pinned.checked.prog 3 Tryz.f3 (OpenSpec.ofChange Rows.playerValuesSpec).bare Rows.playerValuesRow=true:=by kernel_rfl
theorem Uh:(fun (P:Program) (_f:FuncId) (fn:Func) (s:ChangeSpec) (c:OpenClaim)=> ((c.veiled==(fn.params.toList++s.plain.varTypes P++fn.resultTypes.toList).any (P.veiledRec ·)):Bool)) Tryz.pinned.checked.prog 3 Tryz.f3 (OpenSpec.ofChange Rows.playerValuesSpec).bare Rows.playerValuesRow=true:=by kernel_rfl
theorem Ui:(fun (P:Program) (_f:FuncId) (fn:Func) (s:ChangeSpec) (c:OpenClaim)=> (c.veiledFits P fn.params.toList (fn.params.toList++s.plain.varTypes P++fn.resultTypes.toList):Bool)) Tryz.pinned.checked.prog 3 Tryz.f3 (OpenSpec.ofChange Rows.playerValuesSpec).bare Rows.playerValuesRow=true:=by kernel_rfl
theorem facts:joinedFacts Tryz.pinned.checked.prog 3 Tryz.f3 (OpenSpec.ofChange Rows.playerValuesSpec).bare Rows.playerValuesRow=true:=by
 unfold joinedFacts
 simp only [Bool.and_eq_true]
 exact ⟨⟨⟨⟨⟨⟨⟨⟨⟨⟨⟨⟨⟨⟨⟨⟨⟨⟨⟨⟨⟨⟨⟨⟨⟨⟨⟨⟨⟨⟨⟨aan,aao⟩,aap⟩,aaq⟩,aar⟩,aas⟩,aat⟩,aau⟩,aav⟩,aaw⟩,TT⟩,TU⟩,TV⟩,TW⟩,TX⟩,TY⟩,TZ⟩,T4⟩,T6⟩,T7⟩,T8⟩,T9⟩,T_⟩,Ua⟩,Ub⟩,Uc⟩,Ud⟩,Ue⟩,Uf⟩,Ug⟩,Uh⟩,Ui⟩
theorem IJ:Tryz.prog.funcs.toList.any Func.goes=false:=by kernel_rfl
theorem QS (f:FuncId):Tryz.prog.goes f=false:=by
 have h:∀fn∈Tryz.prog.funcs.toList,Func.goes fn=false:=fun fn hm=> by
  have:=List.any_eq_false.1 IJ fn hm
  cases e:fn.goes with
  |false=> rfl
  |true=> exact absurd e this
 have h2:Tryz.prog.funcs.any Func.goes=false:=by
  rw [←Array.any_toList]; exact IJ
 unfold Program.goes
 rw [h2,Bool.and_false,Bool.or_false,List.any_eq_false]
 intro g _
 cases hg:Tryz.prog.funcs[g]? with
 |none=> simp
 |some fn=>
  have:fn∈Tryz.prog.funcs.toList:=by
   obtain ⟨hi,rfl⟩:=Array.getElem?_eq_some_iff.1 hg
   simp
  simp [h fn this]
theorem goes:false=Rows.playerValuesRow.goesBy Tryz.pinned.checked.prog:=by
 show false=(Tryz.prog.goesFrom "foreman/foremanlaw30.PlayerValues" || false)
 unfold Program.goesFrom
 cases Tryz.prog.funcNamed "foreman/foremanlaw30.PlayerValues" with
 |none=> rfl
 |some f=> simp [QS f]
end
end Go.Proofs.YtgjhldabffjiaaaGreatDoor
