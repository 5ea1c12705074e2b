/- The closed facts of the row, one by one. -/
import Derived.Test.YtehffjjfomapnaaGreatDoorCards
import Derived.JoinedCond
import Derived.KernelRfl
namespace Go.Proofs.YtehffjjfomapnaaGreatDoor
noncomputable section
open Go
set_option maxRecDepth 100000
theorem fact0 : (fun (_P : Program) (_f : FuncId) (_fn : Func) (s : ChangeSpec) (c : OpenClaim) => (c.wf (OpenSpec.ofChange s) : Bool)) Tryz.pinned.checked.prog 3 Tryz.f3 (OpenSpec.ofChange Rows.playerItemsSpec).bare Rows.playerItemsRow = true := by kernel_rfl
theorem fact1 : (fun (P : Program) (_f : FuncId) (_fn : Func) (_s : ChangeSpec) (_c : OpenClaim) => (laidOutB P : Bool)) Tryz.pinned.checked.prog 3 Tryz.f3 (OpenSpec.ofChange Rows.playerItemsSpec).bare Rows.playerItemsRow = true := by kernel_rfl
theorem fact2 : (fun (P : Program) (_f : FuncId) (_fn : Func) (_s : ChangeSpec) (_c : OpenClaim) => (mapsRowed P : Bool)) Tryz.pinned.checked.prog 3 Tryz.f3 (OpenSpec.ofChange Rows.playerItemsSpec).bare Rows.playerItemsRow = true := by kernel_rfl
theorem fact3 : (fun (P : Program) (_f : FuncId) (fn : Func) (_s : ChangeSpec) (_c : OpenClaim) => (fn.params.all (P.readableRec ·) : Bool)) Tryz.pinned.checked.prog 3 Tryz.f3 (OpenSpec.ofChange Rows.playerItemsSpec).bare Rows.playerItemsRow = true := by kernel_rfl
theorem fact4 : (fun (P : Program) (_f : FuncId) (_fn : Func) (s : ChangeSpec) (c : OpenClaim) => (namedTie P c.named s.vars : Bool)) Tryz.pinned.checked.prog 3 Tryz.f3 (OpenSpec.ofChange Rows.playerItemsSpec).bare Rows.playerItemsRow = true := by kernel_rfl
theorem fact5 : (fun (_P : Program) (_f : FuncId) (_fn : Func) (_s : ChangeSpec) (c : OpenClaim) => ((c.stops == []) : Bool)) Tryz.pinned.checked.prog 3 Tryz.f3 (OpenSpec.ofChange Rows.playerItemsSpec).bare Rows.playerItemsRow = true := by kernel_rfl
theorem fact6 : (fun (P : Program) (_f : FuncId) (_fn : Func) (_s : ChangeSpec) (_c : OpenClaim) => ((P.stops == []) : Bool)) Tryz.pinned.checked.prog 3 Tryz.f3 (OpenSpec.ofChange Rows.playerItemsSpec).bare Rows.playerItemsRow = true := by kernel_rfl
theorem fact7 : (fun (_P : Program) (_f : FuncId) (_fn : Func) (_s : ChangeSpec) (c : OpenClaim) => ((c.knobs == []) : Bool)) Tryz.pinned.checked.prog 3 Tryz.f3 (OpenSpec.ofChange Rows.playerItemsSpec).bare Rows.playerItemsRow = true := by kernel_rfl
theorem fact8 : (fun (P : Program) (_f : FuncId) (_fn : Func) (_s : ChangeSpec) (_c : OpenClaim) => ((P.stopKnobs == []) : Bool)) Tryz.pinned.checked.prog 3 Tryz.f3 (OpenSpec.ofChange Rows.playerItemsSpec).bare Rows.playerItemsRow = true := by kernel_rfl
theorem fact9 : (fun (P : Program) (f : FuncId) (_fn : Func) (_s : ChangeSpec) (c : OpenClaim) => ((c.inPlace == P.inPlace f) : Bool)) Tryz.pinned.checked.prog 3 Tryz.f3 (OpenSpec.ofChange Rows.playerItemsSpec).bare Rows.playerItemsRow = true := by kernel_rfl
theorem fact10 : (fun (P : Program) (f : FuncId) (_fn : Func) (_s : ChangeSpec) (c : OpenClaim) => ((c.unfollowed == P.unfollowed f) : Bool)) Tryz.pinned.checked.prog 3 Tryz.f3 (OpenSpec.ofChange Rows.playerItemsSpec).bare Rows.playerItemsRow = true := by kernel_rfl
theorem fact11 : (fun (P : Program) (f : FuncId) (_fn : Func) (_s : ChangeSpec) (c : OpenClaim) => ((c.recurses == P.recurses f) : Bool)) Tryz.pinned.checked.prog 3 Tryz.f3 (OpenSpec.ofChange Rows.playerItemsSpec).bare Rows.playerItemsRow = true := by kernel_rfl
theorem fact12 : (fun (P : Program) (f : FuncId) (_fn : Func) (_s : ChangeSpec) (c : OpenClaim) => ((c.named == P.varsNamed f) : Bool)) Tryz.pinned.checked.prog 3 Tryz.f3 (OpenSpec.ofChange Rows.playerItemsSpec).bare Rows.playerItemsRow = true := by kernel_rfl
theorem fact13 : (fun (P : Program) (_f : FuncId) (fn : Func) (s : ChangeSpec) (c : OpenClaim) => ((c.maps == (fn.params.toList ++ s.plain.varTypes P).any (P.mapsRec ·)) : Bool)) Tryz.pinned.checked.prog 3 Tryz.f3 (OpenSpec.ofChange Rows.playerItemsSpec).bare Rows.playerItemsRow = true := by kernel_rfl
theorem fact14 : (fun (P : Program) (_f : FuncId) (fn : Func) (s : ChangeSpec) (c : OpenClaim) => ((c.ifaces == (fn.params.toList ++ s.plain.varTypes P).any (P.ifacesRec ·)) : Bool)) Tryz.pinned.checked.prog 3 Tryz.f3 (OpenSpec.ofChange Rows.playerItemsSpec).bare Rows.playerItemsRow = true := by kernel_rfl
theorem fact15 : (fun (P : Program) (_f : FuncId) (fn : Func) (_s : ChangeSpec) (c : OpenClaim) => ((c.mapsOut == P.mapsAmong fn.resultTypes.toList) : Bool)) Tryz.pinned.checked.prog 3 Tryz.f3 (OpenSpec.ofChange Rows.playerItemsSpec).bare Rows.playerItemsRow = true := by kernel_rfl
theorem fact16 : (fun (P : Program) (_f : FuncId) (fn : Func) (s : ChangeSpec) (c : OpenClaim) => ((c.loops == (fn.params.toList ++ s.plain.varTypes P).any (P.loopsFrom ·)) : Bool)) Tryz.pinned.checked.prog 3 Tryz.f3 (OpenSpec.ofChange Rows.playerItemsSpec).bare Rows.playerItemsRow = true := by kernel_rfl
theorem fact17 : (fun (P : Program) (_f : FuncId) (fn : Func) (s : ChangeSpec) (c : OpenClaim) => ((c.wideKeys == (fn.params.toList ++ s.plain.varTypes P ++ fn.resultTypes.toList).any (P.wideKeysFrom ·)) : Bool)) Tryz.pinned.checked.prog 3 Tryz.f3 (OpenSpec.ofChange Rows.playerItemsSpec).bare Rows.playerItemsRow = true := by kernel_rfl
theorem fact18 : (fun (P : Program) (_f : FuncId) (_fn : Func) (s : ChangeSpec) (_c : OpenClaim) => (s.vars.all (P.varReadable ·) : Bool)) Tryz.pinned.checked.prog 3 Tryz.f3 (OpenSpec.ofChange Rows.playerItemsSpec).bare Rows.playerItemsRow = true := by kernel_rfl
theorem fact19 : (fun (P : Program) (_f : FuncId) (fn : Func) (_s : ChangeSpec) (_c : OpenClaim) => (fn.resultTypes.all (fun t => P.readableRec t && decide (t < P.types.size)) : Bool)) Tryz.pinned.checked.prog 3 Tryz.f3 (OpenSpec.ofChange Rows.playerItemsSpec).bare Rows.playerItemsRow = true := by kernel_rfl
theorem fact20 : (fun (P : Program) (_f : FuncId) (fn : Func) (_s : ChangeSpec) (c : OpenClaim) => ((c.ifacesOut == fn.resultTypes.toList.any (P.ifacesRec ·)) : Bool)) Tryz.pinned.checked.prog 3 Tryz.f3 (OpenSpec.ofChange Rows.playerItemsSpec).bare Rows.playerItemsRow = true := by kernel_rfl
theorem fact21 : (fun (P : Program) (_f : FuncId) (fn : Func) (_s : ChangeSpec) (c : OpenClaim) => ((c.loopsOut == fn.resultTypes.toList.any (P.loopsFrom ·)) : Bool)) Tryz.pinned.checked.prog 3 Tryz.f3 (OpenSpec.ofChange Rows.playerItemsSpec).bare Rows.playerItemsRow = true := by kernel_rfl
theorem fact22 : (fun (P : Program) (_f : FuncId) (_fn : Func) (_s : ChangeSpec) (c : OpenClaim) => ((c.plainKeys == P.plainKeys) : Bool)) Tryz.pinned.checked.prog 3 Tryz.f3 (OpenSpec.ofChange Rows.playerItemsSpec).bare Rows.playerItemsRow = true := by kernel_rfl
theorem fact23 : (fun (_P : Program) (_f : FuncId) (_fn : Func) (_s : ChangeSpec) (c : OpenClaim) => (c.shortTexts.isNone : Bool)) Tryz.pinned.checked.prog 3 Tryz.f3 (OpenSpec.ofChange Rows.playerItemsSpec).bare Rows.playerItemsRow = true := by kernel_rfl
theorem fact24 : (fun (P : Program) (_f : FuncId) (_fn : Func) (_s : ChangeSpec) (_c : OpenClaim) => (P.stopsHeard : Bool)) Tryz.pinned.checked.prog 3 Tryz.f3 (OpenSpec.ofChange Rows.playerItemsSpec).bare Rows.playerItemsRow = true := by kernel_rfl
theorem fact25 : (fun (P : Program) (_f : FuncId) (_fn : Func) (_s : ChangeSpec) (_c : OpenClaim) => (P.mayEnter : Bool)) Tryz.pinned.checked.prog 3 Tryz.f3 (OpenSpec.ofChange Rows.playerItemsSpec).bare Rows.playerItemsRow = true := by kernel_rfl
theorem fact26 : (fun (P : Program) (_f : FuncId) (_fn : Func) (_s : ChangeSpec) (c : OpenClaim) => ((c.lifted == P.liftsFinal) : Bool)) Tryz.pinned.checked.prog 3 Tryz.f3 (OpenSpec.ofChange Rows.playerItemsSpec).bare Rows.playerItemsRow = true := by kernel_rfl
theorem fact27 : (fun (P : Program) (_f : FuncId) (_fn : Func) (_s : ChangeSpec) (c : OpenClaim) => ((P.make == some c.make) : Bool)) Tryz.pinned.checked.prog 3 Tryz.f3 (OpenSpec.ofChange Rows.playerItemsSpec).bare Rows.playerItemsRow = true := by kernel_rfl
theorem fact28 : (fun (P : Program) (_f : FuncId) (fn : Func) (_s : ChangeSpec) (c : OpenClaim) => ((c.kinds == (if c.domain.isEmpty then [] else fn.params.toList.map fun t => match P.underlying t with | some (.int k) => some k | _ => none)) : Bool)) Tryz.pinned.checked.prog 3 Tryz.f3 (OpenSpec.ofChange Rows.playerItemsSpec).bare Rows.playerItemsRow = true := by kernel_rfl
theorem fact29 : (fun (_P : Program) (_f : FuncId) (_fn : Func) (_s : ChangeSpec) (c : OpenClaim) => ((c.pinned == c.pinnedBy) : Bool)) Tryz.pinned.checked.prog 3 Tryz.f3 (OpenSpec.ofChange Rows.playerItemsSpec).bare Rows.playerItemsRow = true := by kernel_rfl
theorem fact30 : (fun (P : Program) (_f : FuncId) (fn : Func) (s : ChangeSpec) (c : OpenClaim) => ((c.veiled == (fn.params.toList ++ s.plain.varTypes P ++ fn.resultTypes.toList).any (P.veiledRec ·)) : Bool)) Tryz.pinned.checked.prog 3 Tryz.f3 (OpenSpec.ofChange Rows.playerItemsSpec).bare Rows.playerItemsRow = true := by kernel_rfl
theorem fact31 : (fun (P : Program) (_f : FuncId) (fn : Func) (s : ChangeSpec) (c : OpenClaim) => (c.veiledFits P fn.params.toList (fn.params.toList ++ s.plain.varTypes P ++ fn.resultTypes.toList) : Bool)) Tryz.pinned.checked.prog 3 Tryz.f3 (OpenSpec.ofChange Rows.playerItemsSpec).bare Rows.playerItemsRow = true := by kernel_rfl
theorem facts : joinedFacts Tryz.pinned.checked.prog 3 Tryz.f3 (OpenSpec.ofChange Rows.playerItemsSpec).bare Rows.playerItemsRow = true := by
  unfold joinedFacts
  simp only [Bool.and_eq_true]
  exact ⟨⟨⟨⟨⟨⟨⟨⟨⟨⟨⟨⟨⟨⟨⟨⟨⟨⟨⟨⟨⟨⟨⟨⟨⟨⟨⟨⟨⟨⟨⟨fact0,fact1⟩,fact2⟩,fact3⟩,fact4⟩,fact5⟩,fact6⟩,fact7⟩,fact8⟩,fact9⟩,fact10⟩,fact11⟩,fact12⟩,fact13⟩,fact14⟩,fact15⟩,fact16⟩,fact17⟩,fact18⟩,fact19⟩,fact20⟩,fact21⟩,fact22⟩,fact23⟩,fact24⟩,fact25⟩,fact26⟩,fact27⟩,fact28⟩,fact29⟩,fact30⟩,fact31⟩
theorem noneGoes : Tryz.prog.funcs.toList.any Func.goes = false := by kernel_rfl
theorem goesNot (f : FuncId) : Tryz.prog.goes f = false := by
  have h : ∀ fn ∈ Tryz.prog.funcs.toList,Func.goes fn = false := fun fn hm => by
    have := List.any_eq_false.1 noneGoes fn hm
    cases e : fn.goes with
    | false => rfl
    | true => exact absurd e this
  have h2 : Tryz.prog.funcs.any Func.goes = false := by
    rw [← Array.any_toList]; exact noneGoes
  unfold Program.goes
  rw [h2,Bool.and_false,Bool.or_false,List.any_eq_false]
  intro g _
  cases hg : Tryz.prog.funcs[g]? with
  | none => simp
  | some fn =>
    have : fn ∈ Tryz.prog.funcs.toList := by
      obtain ⟨hi,rfl⟩ := Array.getElem?_eq_some_iff.1 hg
      simp
    simp [h fn this]
theorem goes : false = Rows.playerItemsRow.goesBy Tryz.pinned.checked.prog := by
  show false = (Tryz.prog.goesFrom "foreman/foremanlaw30.PlayerItems" || false)
  unfold Program.goesFrom
  cases Tryz.prog.funcNamed "foreman/foremanlaw30.PlayerItems" with
  | none => rfl
  | some f => simp [goesNot f]
end
end Go.Proofs.YtehffjjfomapnaaGreatDoor
